/-
  What AsmRight of chapter 17 answers. No condition beyond what each theorem names.
-/
import Derived.Test.YtlbgbpgjccbbjaaDoorAsmInv
import Derived.Deep.LoopGhost
namespace Go.Proofs.YtlbgbpgjccbbjaaDoor.Asm
open Go.RowKit Go.Maps Go.Proofs.YtlbgbpgjccbbjaaDoor.Op
set_option linter.unusedVariables false
structure Deed where
  kind : Int
  name : ByteArray
  label : ByteArray
  n : Int
  m : Int
  t : UInt8
def Deed.cells (d : Deed) : List Value := [.int .i64 d.kind, .string d.name, .string d.label, .int .i64 d.n, .int .i64 d.m, .int .u8 (d.t.toNat : Int)]
def Deed.ok (d : Deed) : Prop := -9223372036854775808 ≤ d.kind ∧ d.kind ≤ 9223372036854775807 ∧ d.name.size ≤ maxLen ∧ d.label.size ≤ maxLen
/-- deeds in memory -/
def DeedsAt (w : World) (v : Value) (l : List Deed) : Prop := ∃ la c, v = .slice la l.length c ∧ l.length ≤ 9223372036854775807 ∧ ∀ i d, l[i]? = some d → d.ok ∧ ∃ b off, la = some ⟨b, off, none⟩ ∧ b < w.heap.size ∧ ∀ j, j < 6 → w.cell? ⟨b, off + i * 6 + j, none⟩ = d.cells[j]?
def RelD (w : World) (bb : Nat) (l : List Deed) (i : Value) (wr : World) : Prop := ∃ (k : Nat) (s : St), k ≤ l.length ∧ k ≤ 80 ∧ i = .int .i64 k ∧ AtK wr w.heap.size bb k s noK ∧ Inv s ∧ Below w.heap.size w wr
theorem AtK.opens {w : World} {B bb n : Nat} {s : St} {K : Nat → Prop} (h : AtK w B bb n s K) : s.opens.length ≤ 256 := by
  obtain ⟨x, _, _, _, h4, _⟩ := h
  exact h4
def RelZ (w9 : World) (L : Nat) (i : Value) (wr : World) : Prop := ∃ q : Nat, q ≤ L + 1 ∧ i = .int .i64 q ∧ Below w9.heap.size w9 wr
theorem codeV_at2 : ∀ (l : List Ins) (k j : Nat) (m : Ins), l[k]? = some m → j < 4 → (codeV l)[k * 4 + j]? = m.cells[j]?
  | [], k, j, m, h, _ => by simp at h
  | a :: l, 0, j, m, h, hj => by
    simp at h
    subst h
    rw [show codeV (a :: l) = a.cells ++ codeV l from rfl, List.getElem?_append_left (by simp [Ins.cells]; omega)]
    simp
  | a :: l, k + 1, j, m, h, hj => by
    rw [show codeV (a :: l) = a.cells ++ codeV l from rfl, List.getElem?_append_right (by simp [Ins.cells]; omega), ← codeV_at2 l k j m (by simpa using h) hj]
    simp [Ins.cells]
    rw [show (k + 1) * 4 + j - 4 = k * 4 + j by omega]
theorem all_right {s : St} (h : Inv s) : ∀ x ∈ s.code ++ [(⟨11, 0, 0⟩ : Ins)], rightB x.op x.a x.b [] = true := by
  intro x hx
  rcases List.mem_append.1 hx with hx | hx
  · exact h.2 x hx
  · rw [List.mem_singleton.1 hx]; exact right_11
theorem right_wf {o a b : Int} (h : rightB o a b [] = true) : (Lit.int .i64 o).wf = true := by
  unfold rightB at h
  cases hi : opInfo o with
  | none => rw [hi] at h; cases h
  | some i =>
    have h1 := List.all_eq_true.1 codes_wf _ (opInfo_mem hi)
    simp at h1
    simp [Lit.wf, IntKind.min, IntKind.max, IntKind.signed, IntKind.bits]
    omega
theorem row_cell {w : World} {B g n cap : Nat} {l : List Ins} (ho : w.ownsRow B 36 4 (.slice (some ⟨g, 0, none⟩) n cap) n (codeV l)) {i : Nat} {m : Ins} (hm : l[i]? = some m) (j : Nat) (hj : j < 4) : w.cell? ⟨g, i * 4 + j, none⟩ = m.cells[j]? := by
  have h1 := codeV_at2 l i j m hm hj
  have hlt := (List.getElem?_eq_some_iff.1 hm).1
  have hl := ho.1
  have hcl : (codeV l).length = l.length * 4 := by
    clear h1 hm hlt hl ho
    induction l with
    | nil => rfl
    | cons a l ih =>
      rw [show codeV (a :: l) = a.cells ++ codeV l from rfl, List.length_append, ih]
      simp [Ins.cells]
      omega
  rw [ho.cellAt _ (by omega), h1]
theorem row_later {w w' : World} {b k j : Nat} {m : Ins} (h : w.cell? ⟨b, k, none⟩ = m.cells[j]?) (c : Below w.heap.size w w') (hj : j < 4) : w'.cell? ⟨b, k, none⟩ = m.cells[j]? := by
  obtain ⟨u, hu⟩ : ∃ u, m.cells[j]? = some u := ⟨_, List.getElem?_eq_getElem (by simp [Ins.cells]; omega)⟩
  rw [hu] at h ⊢
  exact cell_later c h
def RelN (w : World) (bb gk : Nat) (wr : World) : Prop := ∃ (n : Nat) (s : St), s.opens.length = gk ∧ AtK wr w.heap.size bb n s noK ∧ Inv s ∧ Below w.heap.size w wr ∧ n + gk ≤ 400
set_option maxRecDepth 100000 in
set_option maxHeartbeats 8000000 in
theorem right_walk (lv : Value) (l : List Deed) (w : World) (hE : OpEnv w) (hl : DeedsAt w lv l) : Calls Tryd.prog 12 #[lv] w fun e w' => e = .returned (.bool true) ∧ Below w.heap.size w w' := by
  obtain ⟨la, lc, rfl, hlen, hc⟩ := hl
  have HE := Lib.hid (Env.start hE)
  have HP := Lib.hid hE
  have HC := Lib.hid hc
  clear hE hc
  go_enter Tryd.func12, Tryd.ntmps12
  go_wp2_with fail
  refine (examples17 w HP.out).mono ?_
  rintro e w0 ⟨rfl, c0⟩
  have HB := Lib.hid c0
  have HE1 := Lib.hid (HE.out.later c0)
  clear c0
  go_wp2_with fail
  refine (k_new ⟨#[127, 126]⟩ w0 noK (fun b hb => hb.elim) (by decide)).mono ?_
  rintro e w1 ⟨bb, rfl, hlo, hA, c1⟩
  have HA := Lib.hid (hA _ HE1.out)
  have HB := Lib.hid (HB.out.trans (c1.mono HB.out.size))
  clear hA c1 hlo
  go_wp2_with fail
  go_loopw [6] (fun i wr => RelD w bb l i wr) (fun i _ => 80 - (intOf i).toNat)
  case atStart => exact ⟨0, _, Nat.zero_le _, Nat.zero_le _, rfl, HA.out, inv_start _ _, HB.out⟩
  case round =>
    obtain ⟨k, s, hkl, hk80, rfl, hA, hI, hB⟩ := hrel
    have HA := Lib.hid hA
    have HI := Lib.hid hI
    have HB := Lib.hid hB
    clear hA hI
    by_cases hlt : k < l.length ∧ k < 80
    · obtain ⟨hlt1, hlt2⟩ := hlt
      obtain ⟨⟨kd, nm, lab, dn, dm, dt⟩, hd⟩ : ∃ d, l[k]? = some d := ⟨_, List.getElem?_eq_getElem hlt1⟩
      obtain ⟨⟨k0, k1, k2, k3⟩, b, off, rfl, hb, hcell⟩ := HC.out k _ hd
      have x0 : wr.cell? ⟨b, off + k * 6, none⟩ = some (.int .i64 kd) := cell_later hB (hcell 0 (by decide))
      have x1 : wr.cell? ⟨b, off + k * 6 + 1, none⟩ = some (.string nm) := cell_later hB (hcell 1 (by decide))
      have x2 : wr.cell? ⟨b, off + k * 6 + 2, none⟩ = some (.string lab) := cell_later hB (hcell 2 (by decide))
      have x3 : wr.cell? ⟨b, off + k * 6 + 3, none⟩ = some (.int .i64 dn) := cell_later hB (hcell 3 (by decide))
      have x4 : wr.cell? ⟨b, off + k * 6 + 4, none⟩ = some (.int .i64 dm) := cell_later hB (hcell 4 (by decide))
      have x5 : wr.cell? ⟨b, off + k * 6 + 5, none⟩ = some (.int .u8 (dt.toNat : Int)) := cell_later hB (hcell 5 (by decide))
      have d1 : decide (k < l.length) = true := decide_eq_true hlt1
      have d2 : decide (k < 80) = true := decide_eq_true hlt2
      change -9223372036854775808 ≤ kd at k0
      change kd ≤ 9223372036854775807 at k1
      have HA1 := Lib.hid ((HA.out.alloc (.cells #[.int .i64 kd, .string nm, .string lab, .int .i64 dn, .int .i64 dm, .int .u8 (dt.toNat : Int)] 63)).sub (K' := noK) (fun b hb => .inl hb))
      have HB1 := Lib.hid (HB.out.alloc HB.out.size (.cells #[.int .i64 kd, .string nm, .string lab, .int .i64 dn, .int .i64 dm, .int .u8 (dt.toNat : Int)] 63))
      clear hB hcell hd
      by_cases hneg : kd < 0
      · have hn : decide (kd < 0) = true := decide_eq_true hneg
        have hp0 : 0 ≤ -(kd + 1) := by omega
        have hE : -(Int.tmod (kd + 1) 10) = -(kd + 1) % 10 := by rw [← Int.neg_tmod, Int.tmod_eq_emod_of_nonneg hp0]
        rcases (show (-(kd + 1)) % 10 = 3 ∨ (-(kd + 1)) % 10 = 4 ∨ (-(kd + 1)) % 10 = 5 ∨ (-(kd + 1)) % 10 = 6 ∨ (-(kd + 1)) % 10 = 7 ∨ ((-(kd + 1)) % 10 ≠ 3 ∧ (-(kd + 1)) % 10 ≠ 4 ∧ (-(kd + 1)) % 10 ≠ 5 ∧ (-(kd + 1)) % 10 ≠ 6 ∧ (-(kd + 1)) % 10 ≠ 7) by omega) with hr | hr | hr | hr | hr | ⟨hr3, hr4, hr5, hr6, hr7⟩
        · have t3 : (-(Int.tmod (kd + 1) 10) == 3) = true := by rw [hE]; rw [hr]; rfl
          have t4 : (-(Int.tmod (kd + 1) 10) == 4) = false := by rw [hE]; rw [hr]; rfl
          have t5 : (-(Int.tmod (kd + 1) 10) == 5) = false := by rw [hE]; rw [hr]; rfl
          have t6 : (-(Int.tmod (kd + 1) 10) == 6) = false := by rw [hE]; rw [hr]; rfl
          have t7 : (-(Int.tmod (kd + 1) 10) == 7) = false := by rw [hE]; rw [hr]; rfl
          clear hE hr
          go_wp2_with fail
          obtain ⟨v, s2, hR⟩ : ∃ v s2, openR s nm.data.toList lab dt = (v, s2) := ⟨_, _, rfl⟩
          have HI2 := Lib.hid (inv_open HI.out hR)
          refine (k_open HA1.out (by omega) nm lab dt k2 v s2 hR).mono ?_
          rintro e w3 ⟨rfl, hA3, hS3⟩
          have HA3 := Lib.hid hA3
          have HB3 := Lib.hid (HB1.out.trans hS3.1)
          clear hA3 hS3 hR
          go_wp2_with fail
          go_roundw
          case rel => exact ⟨k + 1, s2, by omega, by omega, by go_num, HA3.out, HI2.out, HB3.out⟩
          case measure => simp [intOf]; omega
        · have t3 : (-(Int.tmod (kd + 1) 10) == 3) = false := by rw [hE]; rw [hr]; rfl
          have t4 : (-(Int.tmod (kd + 1) 10) == 4) = true := by rw [hE]; rw [hr]; rfl
          have t5 : (-(Int.tmod (kd + 1) 10) == 5) = false := by rw [hE]; rw [hr]; rfl
          have t6 : (-(Int.tmod (kd + 1) 10) == 6) = false := by rw [hE]; rw [hr]; rfl
          have t7 : (-(Int.tmod (kd + 1) 10) == 7) = false := by rw [hE]; rw [hr]; rfl
          clear hE hr
          go_wp2_with fail
          obtain ⟨v, s2, hR⟩ : ∃ v s2, openR s nm.data.toList lab dt = (v, s2) := ⟨_, _, rfl⟩
          have HI2 := Lib.hid (inv_open HI.out hR)
          refine (k_open HA1.out (by omega) nm lab dt k2 v s2 hR).mono ?_
          rintro e w3 ⟨rfl, hA3, hS3⟩
          have HA3 := Lib.hid hA3
          have HB3 := Lib.hid (HB1.out.trans hS3.1)
          clear hA3 hS3 hR
          go_wp2_with fail
          go_roundw
          case rel => exact ⟨k + 1, s2, by omega, by omega, by go_num, HA3.out, HI2.out, HB3.out⟩
          case measure => simp [intOf]; omega
        · have t3 : (-(Int.tmod (kd + 1) 10) == 3) = false := by rw [hE]; rw [hr]; rfl
          have t4 : (-(Int.tmod (kd + 1) 10) == 4) = false := by rw [hE]; rw [hr]; rfl
          have t5 : (-(Int.tmod (kd + 1) 10) == 5) = true := by rw [hE]; rw [hr]; rfl
          have t6 : (-(Int.tmod (kd + 1) 10) == 6) = false := by rw [hE]; rw [hr]; rfl
          have t7 : (-(Int.tmod (kd + 1) 10) == 7) = false := by rw [hE]; rw [hr]; rfl
          clear hE hr
          go_wp2_with fail
          obtain ⟨v, s2, hR⟩ : ∃ v s2, elseR s = (v, s2) := ⟨_, _, rfl⟩
          have HI2 := Lib.hid (inv_else HI.out hR)
          refine (k_else HA1.out (by omega) v s2 hR).mono ?_
          rintro e w3 ⟨rfl, hA3, hS3⟩
          have HA3 := Lib.hid hA3
          have HB3 := Lib.hid (HB1.out.trans hS3.1)
          clear hA3 hS3 hR
          go_wp2_with fail
          go_roundw
          case rel => exact ⟨k + 1, s2, by omega, by omega, by go_num, HA3.out, HI2.out, HB3.out⟩
          case measure => simp [intOf]; omega
        · have t3 : (-(Int.tmod (kd + 1) 10) == 3) = false := by rw [hE]; rw [hr]; rfl
          have t4 : (-(Int.tmod (kd + 1) 10) == 4) = false := by rw [hE]; rw [hr]; rfl
          have t5 : (-(Int.tmod (kd + 1) 10) == 5) = false := by rw [hE]; rw [hr]; rfl
          have t6 : (-(Int.tmod (kd + 1) 10) == 6) = true := by rw [hE]; rw [hr]; rfl
          have t7 : (-(Int.tmod (kd + 1) 10) == 7) = false := by rw [hE]; rw [hr]; rfl
          clear hE hr
          go_wp2_with fail
          obtain ⟨v, s2, hR⟩ : ∃ v s2, closeR s = (v, s2) := ⟨_, _, rfl⟩
          have HI2 := Lib.hid (inv_close HI.out hR)
          refine (k_close HA1.out (by omega) v s2 hR).mono ?_
          rintro e w3 ⟨rfl, hA3, hS3⟩
          have HA3 := Lib.hid hA3
          have HB3 := Lib.hid (HB1.out.trans hS3.1)
          clear hA3 hS3 hR
          go_wp2_with fail
          go_roundw
          case rel => exact ⟨k + 1, s2, by omega, by omega, by go_num, HA3.out, HI2.out, HB3.out⟩
          case measure => simp [intOf]; omega
        · have t3 : (-(Int.tmod (kd + 1) 10) == 3) = false := by rw [hE]; rw [hr]; rfl
          have t4 : (-(Int.tmod (kd + 1) 10) == 4) = false := by rw [hE]; rw [hr]; rfl
          have t5 : (-(Int.tmod (kd + 1) 10) == 5) = false := by rw [hE]; rw [hr]; rfl
          have t6 : (-(Int.tmod (kd + 1) 10) == 6) = false := by rw [hE]; rw [hr]; rfl
          have t7 : (-(Int.tmod (kd + 1) 10) == 7) = true := by rw [hE]; rw [hr]; rfl
          clear hE hr
          go_wp2_with fail
          obtain ⟨v, s2, hR⟩ : ∃ v s2, goR s nm.data.toList lab.data.toList = (v, s2) := ⟨_, _, rfl⟩
          have HI2 := Lib.hid (inv_go HI.out (AtK.opens HA.out) hR)
          refine (k_go HA1.out (by omega) nm lab k2 v s2 hR).mono ?_
          rintro e w3 ⟨rfl, hA3, hS3⟩
          have HA3 := Lib.hid hA3
          have HB3 := Lib.hid (HB1.out.trans hS3.1)
          clear hA3 hS3 hR
          go_wp2_with fail
          go_roundw
          case rel => exact ⟨k + 1, s2, by omega, by omega, by go_num, HA3.out, HI2.out, HB3.out⟩
          case measure => simp [intOf]; omega
        · have t3 : (-(Int.tmod (kd + 1) 10) == 3) = false := by rw [hE]; exact beq_eq_false_iff_ne.2 hr3
          have t4 : (-(Int.tmod (kd + 1) 10) == 4) = false := by rw [hE]; exact beq_eq_false_iff_ne.2 hr4
          have t5 : (-(Int.tmod (kd + 1) 10) == 5) = false := by rw [hE]; exact beq_eq_false_iff_ne.2 hr5
          have t6 : (-(Int.tmod (kd + 1) 10) == 6) = false := by rw [hE]; exact beq_eq_false_iff_ne.2 hr6
          have t7 : (-(Int.tmod (kd + 1) 10) == 7) = false := by rw [hE]; exact beq_eq_false_iff_ne.2 hr7
          clear hE hr3 hr4 hr5 hr6 hr7
          go_wp2_with fail
          obtain ⟨v, s2, hR⟩ : ∃ v s2, opR s nm.data.toList dn dm = (v, s2) := ⟨_, _, rfl⟩
          have HI2 := Lib.hid (inv_op HI.out hR)
          refine (k_op HA1.out (by omega) nm dn dm k2 v s2 hR).mono ?_
          rintro e w3 ⟨rfl, hA3, hS3⟩
          have HA3 := Lib.hid hA3
          have HB3 := Lib.hid (HB1.out.trans hS3.1)
          clear hA3 hS3 hR
          go_wp2_with fail
          go_roundw
          case rel => exact ⟨k + 1, s2, by omega, by omega, by go_num, HA3.out, HI2.out, HB3.out⟩
          case measure => simp [intOf]; omega
      · have hn : decide (kd < 0) = false := decide_eq_false hneg
        have hp0 : 0 ≤ kd := by omega
        rcases (show kd % 10 = 3 ∨ kd % 10 = 4 ∨ kd % 10 = 5 ∨ kd % 10 = 6 ∨ kd % 10 = 7 ∨ (kd % 10 ≠ 3 ∧ kd % 10 ≠ 4 ∧ kd % 10 ≠ 5 ∧ kd % 10 ≠ 6 ∧ kd % 10 ≠ 7) by omega) with hr | hr | hr | hr | hr | ⟨hr3, hr4, hr5, hr6, hr7⟩
        · have t3 : (kd % 10 == 3) = true := by rw [hr]; rfl
          have t4 : (kd % 10 == 4) = false := by rw [hr]; rfl
          have t5 : (kd % 10 == 5) = false := by rw [hr]; rfl
          have t6 : (kd % 10 == 6) = false := by rw [hr]; rfl
          have t7 : (kd % 10 == 7) = false := by rw [hr]; rfl
          clear hr
          go_wp2_with fail
          obtain ⟨v, s2, hR⟩ : ∃ v s2, openR s nm.data.toList lab dt = (v, s2) := ⟨_, _, rfl⟩
          have HI2 := Lib.hid (inv_open HI.out hR)
          refine (k_open HA1.out (by omega) nm lab dt k2 v s2 hR).mono ?_
          rintro e w3 ⟨rfl, hA3, hS3⟩
          have HA3 := Lib.hid hA3
          have HB3 := Lib.hid (HB1.out.trans hS3.1)
          clear hA3 hS3 hR
          go_wp2_with fail
          go_roundw
          case rel => exact ⟨k + 1, s2, by omega, by omega, by go_num, HA3.out, HI2.out, HB3.out⟩
          case measure => simp [intOf]; omega
        · have t3 : (kd % 10 == 3) = false := by rw [hr]; rfl
          have t4 : (kd % 10 == 4) = true := by rw [hr]; rfl
          have t5 : (kd % 10 == 5) = false := by rw [hr]; rfl
          have t6 : (kd % 10 == 6) = false := by rw [hr]; rfl
          have t7 : (kd % 10 == 7) = false := by rw [hr]; rfl
          clear hr
          go_wp2_with fail
          obtain ⟨v, s2, hR⟩ : ∃ v s2, openR s nm.data.toList lab dt = (v, s2) := ⟨_, _, rfl⟩
          have HI2 := Lib.hid (inv_open HI.out hR)
          refine (k_open HA1.out (by omega) nm lab dt k2 v s2 hR).mono ?_
          rintro e w3 ⟨rfl, hA3, hS3⟩
          have HA3 := Lib.hid hA3
          have HB3 := Lib.hid (HB1.out.trans hS3.1)
          clear hA3 hS3 hR
          go_wp2_with fail
          go_roundw
          case rel => exact ⟨k + 1, s2, by omega, by omega, by go_num, HA3.out, HI2.out, HB3.out⟩
          case measure => simp [intOf]; omega
        · have t3 : (kd % 10 == 3) = false := by rw [hr]; rfl
          have t4 : (kd % 10 == 4) = false := by rw [hr]; rfl
          have t5 : (kd % 10 == 5) = true := by rw [hr]; rfl
          have t6 : (kd % 10 == 6) = false := by rw [hr]; rfl
          have t7 : (kd % 10 == 7) = false := by rw [hr]; rfl
          clear hr
          go_wp2_with fail
          obtain ⟨v, s2, hR⟩ : ∃ v s2, elseR s = (v, s2) := ⟨_, _, rfl⟩
          have HI2 := Lib.hid (inv_else HI.out hR)
          refine (k_else HA1.out (by omega) v s2 hR).mono ?_
          rintro e w3 ⟨rfl, hA3, hS3⟩
          have HA3 := Lib.hid hA3
          have HB3 := Lib.hid (HB1.out.trans hS3.1)
          clear hA3 hS3 hR
          go_wp2_with fail
          go_roundw
          case rel => exact ⟨k + 1, s2, by omega, by omega, by go_num, HA3.out, HI2.out, HB3.out⟩
          case measure => simp [intOf]; omega
        · have t3 : (kd % 10 == 3) = false := by rw [hr]; rfl
          have t4 : (kd % 10 == 4) = false := by rw [hr]; rfl
          have t5 : (kd % 10 == 5) = false := by rw [hr]; rfl
          have t6 : (kd % 10 == 6) = true := by rw [hr]; rfl
          have t7 : (kd % 10 == 7) = false := by rw [hr]; rfl
          clear hr
          go_wp2_with fail
          obtain ⟨v, s2, hR⟩ : ∃ v s2, closeR s = (v, s2) := ⟨_, _, rfl⟩
          have HI2 := Lib.hid (inv_close HI.out hR)
          refine (k_close HA1.out (by omega) v s2 hR).mono ?_
          rintro e w3 ⟨rfl, hA3, hS3⟩
          have HA3 := Lib.hid hA3
          have HB3 := Lib.hid (HB1.out.trans hS3.1)
          clear hA3 hS3 hR
          go_wp2_with fail
          go_roundw
          case rel => exact ⟨k + 1, s2, by omega, by omega, by go_num, HA3.out, HI2.out, HB3.out⟩
          case measure => simp [intOf]; omega
        · have t3 : (kd % 10 == 3) = false := by rw [hr]; rfl
          have t4 : (kd % 10 == 4) = false := by rw [hr]; rfl
          have t5 : (kd % 10 == 5) = false := by rw [hr]; rfl
          have t6 : (kd % 10 == 6) = false := by rw [hr]; rfl
          have t7 : (kd % 10 == 7) = true := by rw [hr]; rfl
          clear hr
          go_wp2_with fail
          obtain ⟨v, s2, hR⟩ : ∃ v s2, goR s nm.data.toList lab.data.toList = (v, s2) := ⟨_, _, rfl⟩
          have HI2 := Lib.hid (inv_go HI.out (AtK.opens HA.out) hR)
          refine (k_go HA1.out (by omega) nm lab k2 v s2 hR).mono ?_
          rintro e w3 ⟨rfl, hA3, hS3⟩
          have HA3 := Lib.hid hA3
          have HB3 := Lib.hid (HB1.out.trans hS3.1)
          clear hA3 hS3 hR
          go_wp2_with fail
          go_roundw
          case rel => exact ⟨k + 1, s2, by omega, by omega, by go_num, HA3.out, HI2.out, HB3.out⟩
          case measure => simp [intOf]; omega
        · have t3 : (kd % 10 == 3) = false := by exact beq_eq_false_iff_ne.2 hr3
          have t4 : (kd % 10 == 4) = false := by exact beq_eq_false_iff_ne.2 hr4
          have t5 : (kd % 10 == 5) = false := by exact beq_eq_false_iff_ne.2 hr5
          have t6 : (kd % 10 == 6) = false := by exact beq_eq_false_iff_ne.2 hr6
          have t7 : (kd % 10 == 7) = false := by exact beq_eq_false_iff_ne.2 hr7
          clear hr3 hr4 hr5 hr6 hr7
          go_wp2_with fail
          obtain ⟨v, s2, hR⟩ : ∃ v s2, opR s nm.data.toList dn dm = (v, s2) := ⟨_, _, rfl⟩
          have HI2 := Lib.hid (inv_op HI.out hR)
          refine (k_op HA1.out (by omega) nm dn dm k2 v s2 hR).mono ?_
          rintro e w3 ⟨rfl, hA3, hS3⟩
          have HA3 := Lib.hid hA3
          have HB3 := Lib.hid (HB1.out.trans hS3.1)
          clear hA3 hS3 hR
          go_wp2_with fail
          go_roundw
          case rel => exact ⟨k + 1, s2, by omega, by omega, by go_num, HA3.out, HI2.out, HB3.out⟩
          case measure => simp [intOf]; omega
    · obtain ⟨W5, hW5⟩ : ∃ W5, W5 = wr := ⟨_, rfl⟩
      subst hW5
      have hex : decide (k < l.length) = false ∨ (decide (k < l.length) = true ∧ decide ((k : Int) < 80) = false) := by
        by_cases h : k < l.length
        · exact .inr ⟨decide_eq_true h, decide_eq_false (fun h2 => hlt ⟨h, by omega⟩)⟩
        · exact .inl (decide_eq_false h)
      clear hB hlt
      rcases hex with d1 | ⟨d1, d2⟩
      · go_wp2_with fail
        go_loopg [86] s.opens.length (fun gk p wr => RelN w bb gk wr)
        case atStart => exact ⟨_, s, rfl, HA.out, HI.out, HB.out, by have := AtK.opens HA.out; omega⟩
        case round =>
          obtain ⟨n, s, hgk, hA, hI, hB, hnb⟩ := hrel
          have HA := Lib.hid hA
          have HI := Lib.hid hI
          have HB := Lib.hid hB
          clear hA hI hB
          go_wp2_with fail
          refine (k_nest HA.out).mono ?_
          rintro e w4 ⟨rfl, rfl⟩
          rcases List.eq_nil_or_concat s.opens with he | ⟨l0, m, he⟩
          · have hn0 : s.opens.length = 0 := by rw [he]; rfl
            rw [hn0]
            have HOP := Lib.hid he
            have HRUN := Lib.hid (show runS [] (s.code.map Ins.op) = some [] by have h := HI.out.1; rw [he] at h; exact h)
            have HOK := Lib.hid (all_right HI.out)
            clear hgk hn0 he
            go_wp2_with fail
            refine (k_done HA.out (by omega) 7 HOP.out (by decide) (by decide)).mono ?_
            rintro e w8 ⟨g, cap, rfl, ho, hA, c8⟩
            obtain ⟨L, hL⟩ : ∃ L, s.code.length = L := ⟨_, rfl⟩
            have hcell := fun i m hm j hj => row_cell ho (i := i) (m := m) hm j hj
            have hgl := (ho.lt g rfl).2
            rw [hL] at ho ⊢
            obtain ⟨LS, hLS⟩ : ∃ LS : ByteArray, (⟨s.locals.toArray⟩ : ByteArray) = LS := ⟨_, rfl⟩
            rw [hLS]
            have HA8 := Lib.hid (hA.alloc (.cells #[.int .i64 7, .string LS, .slice (some ⟨g, 0, none⟩) (L + 1) cap] 51))
            have HB8 := Lib.hid ((HB.out.trans (c8.mono HB.out.size)).alloc (Nat.le_trans HB.out.size c8.size) (.cells #[.int .i64 7, .string LS, .slice (some ⟨g, 0, none⟩) (L + 1) cap] 51))
            have HCE := Lib.hid hcell
            have HLL := Lib.hid hL
            have hLn : L < 500 := by obtain ⟨_, _, _, _, _, _, _, hf⟩ := hA; omega
            have hst := struct_yes s.code g cap (w8.alloc (.cells #[.int .i64 7, .string LS, .slice (some ⟨g, 0, none⟩) (L + 1) cap] 51)) (by omega) (by simp; omega) HRUN.out (fun i m hm j hj => (World.cell?_alloc_past _ _ _ hgl).trans (HCE.out i m hm j hj))
            rw [hL] at hst
            have HST := Lib.hid hst
            have hnz : (((L : Int) + 1) == 0) = false := beq_eq_false_iff_ne.2 (by omega)
            clear hA c8 ho hcell hL hLS hst
            go_wp2_with fail
            refine HST.out.mono ?_
            rintro e w9 ⟨rfl, c9⟩
            have f0 : w9.cell? ⟨w8.heap.size, 0, none⟩ = some (.int .i64 7) := cell_later c9 (by simp)
            have f2 : w9.cell? ⟨w8.heap.size, 2, none⟩ = some (.slice (some ⟨g, 0, none⟩) (L + 1) cap) := cell_later c9 (by simp)
            have F2 := Lib.hid f2
            have HA9 := Lib.hid (HA8.out.later c9)
            have HB9 := Lib.hid (HB8.out.trans (c9.mono HB8.out.size))
            have HC9 := Lib.hid (fun i m (hm : (s.code ++ [(⟨11, 0, 0⟩ : Ins)])[i]? = some m) j (hj : j < 4) => row_later ((World.cell?_alloc_past (.cells #[.int .i64 7, .string LS, .slice (some ⟨g, 0, none⟩) (L + 1) cap] 51) _ _ hgl).trans (HCE.out i m hm j hj)) c9 hj)
            clear c9 HST f2
            have f2 := F2.out
            go_wp2_with fail
            go_loopw [12] (fun i wr => RelZ w9 L i wr) (fun i _ => L + 1 - (intOf i).toNat)
            case atStart => exact ⟨0, Nat.zero_le _, rfl, Below.refl _ _⟩
            case round =>
              obtain ⟨q, hq, rfl, hZ⟩ := hrel
              have HZ := Lib.hid hZ
              have z2 : wr.cell? ⟨w8.heap.size, 2, none⟩ = some (.slice (some ⟨g, 0, none⟩) (L + 1) cap) := cell_later hZ F2.out
              by_cases hlq : q < L + 1
              · obtain ⟨⟨mo, ma, mb⟩, hm⟩ : ∃ m, (s.code ++ [(⟨11, 0, 0⟩ : Ins)])[q]? = some m := ⟨_, List.getElem?_eq_getElem (by rw [List.length_append, HLL.out]; exact hlq)⟩
                have y0 : wr.cell? ⟨g, q * 4, none⟩ = some (.int .i64 mo) := row_later (j := 0) (HC9.out q _ hm 0 (by decide)) hZ (by decide)
                have y1 : wr.cell? ⟨g, q * 4 + 1, none⟩ = some (.int .i64 ma) := row_later (j := 1) (HC9.out q _ hm 1 (by decide)) hZ (by decide)
                have y2 : wr.cell? ⟨g, q * 4 + 2, none⟩ = some (.int .i64 mb) := row_later (j := 2) (HC9.out q _ hm 2 (by decide)) hZ (by decide)
                have y3 : wr.cell? ⟨g, q * 4 + 3, none⟩ = some (.slice none 0 0) := row_later (j := 3) (HC9.out q _ hm 3 (by decide)) hZ (by decide)
                have HRT := Lib.hid (HOK.out _ (List.mem_of_getElem? hm))
                have hdq : decide ((q : Int) < (L : Int) + 1) = true := decide_eq_true (by omega)
                clear hm hZ
                go_wp2_with fail
                refine (right_v mo ma mb none 0 wr ((HA9.out.later HZ.out).env.op) (right_wf HRT.out) true HRT.out).mono ?_
                rintro e w10 ⟨rfl, c10⟩
                have HZ2 := Lib.hid (HZ.out.trans (c10.mono HZ.out.size))
                clear c10
                go_wp2_with fail
                go_roundw
                case rel => exact ⟨q + 1, by omega, by go_num, HZ2.out⟩
                case measure => simp [intOf]; omega
              · obtain rfl : q = L + 1 := by omega
                have hdq : decide (((L + 1 : Nat) : Int) < (L : Int) + 1) = false := decide_eq_false (by omega)
                have HA10 := Lib.hid (HA9.out.later hZ)
                have HB10 := Lib.hid (HB9.out.trans (hZ.mono HB9.out.size))
                have Y11 := Lib.hid (show wr.cell? ⟨g, L * 4, none⟩ = some (.int .i64 11) from row_later (j := 0) (m := ⟨11, 0, 0⟩) (HC9.out L _ (by rw [← HLL.out]; simp) 0 (by decide)) hZ (by decide))
                have Z2 := Lib.hid z2
                have Z0 := Lib.hid (show wr.cell? ⟨w8.heap.size, 0, none⟩ = some (.int .i64 7) from cell_later hZ f0)
                rw [show (((L + 1 : Nat) : Int)) = (L : Int) + 1 by omega]
                rw [show (((L + 1 : Nat) : Int)) = (L : Int) + 1 by omega] at hdq
                clear hZ z2
                go_wp2_with fail
                have hnop : opR s [110, 111, 112] 0 0 = (0, { s with code := s.code ++ [⟨1, 0, 0⟩] }) := by
                  unfold opR
                  rw [show opOk [110, 111, 112] 0 0 = some 1 by kernel_rfl]
                refine (k_op HA10.out (by omega) ⟨#[110, 111, 112]⟩ 0 0 (by unfold maxLen; decide) 0 _ hnop).mono ?_
                rintro e w11 ⟨rfl, hA, hS⟩
                have HY := Lib.hid (hS.cell (b := g) (j := L * 4) (.inl (.inr rfl)) Y11.out)
                have HZ2 := Lib.hid (hS.cell (b := w8.heap.size) (j := 2) (.inr rfl) Z2.out)
                have HA11 := Lib.hid hA
                have HB11 := Lib.hid (HB10.out.trans hS.1)
                clear hA hS hnop
                go_wp2_with fail
                refine (k_done HA11.out (by omega) 7 HOP.out (by decide) (by decide)).mono ?_
                rintro e w12 ⟨g2, cap2, rfl, ho2, hA12, c12⟩
                have hcl : ({ s with code := s.code ++ [⟨1, 0, 0⟩] } : St).code.length = L + 1 := by show (s.code ++ [(⟨1, 0, 0⟩ : Ins)]).length = L + 1; rw [List.length_append, HLL.out]; rfl
                have v1 : w12.cell? ⟨g2, L * 4, none⟩ = some (.int .i64 1) := row_cell ho2 (i := L) (m := ⟨1, 0, 0⟩) (by show ((s.code ++ [(⟨1, 0, 0⟩ : Ins)]) ++ [(⟨11, 0, 0⟩ : Ins)])[L]? = _; rw [← HLL.out]; simp) 0 (by decide)
                have hg2l := (ho2.lt g2 rfl).2
                have v2 : w12.cell? ⟨g, L * 4, none⟩ = some (.int .i64 11) := cell_later c12 HY.out
                have v3 : w12.cell? ⟨w8.heap.size, 2, none⟩ = some (.slice (some ⟨g, 0, none⟩) (L + 1) cap) := cell_later c12 HZ2.out
                have hgl12 : g < w12.heap.size := World.block_lt_of_cell? _ _ v2
                have hfl12 : w8.heap.size < w12.heap.size := World.block_lt_of_cell? _ _ v3
                rw [hcl]
                have HB12 := Lib.hid (HB11.out.trans (c12.mono HB11.out.size))
                clear c12 hA12 ho2 hcl
                go_wp2_with fail
                go_ret
                exact ⟨rfl, HB12.out.alloc HB12.out.size _⟩
          · rw [List.concat_eq_append] at he
            have hlen : s.opens.length = l0.length + 1 := by rw [he]; simp
            have hpos : decide (0 < s.opens.length) = true := decide_eq_true (by omega)
            obtain ⟨s2, hR, hs2⟩ : ∃ s2, closeR s = (0, s2) ∧ s2.opens.length = l0.length := by
              unfold closeR
              rw [he, show (l0 ++ [m]).getLast? = some m by simp, show (l0 ++ [m]).dropLast = l0 by simp]
              exact ⟨_, rfl, rfl⟩
            have HI2 := Lib.hid (inv_close HI.out hR)
            have HR := Lib.hid hR
            clear hR he
            go_wp2_with fail
            refine (k_close HA.out (by omega) 0 s2 HR.out).mono ?_
            rintro e w5 ⟨rfl, hA5, hS5⟩
            have HA5 := Lib.hid hA5
            have HB5 := Lib.hid (HB.out.trans hS5.1)
            clear hA5 hS5
            go_wp2_with fail
            go_roundg l0.length
            case measure => omega
            case rel => exact ⟨n + 1, s2, hs2, HA5.out, HI2.out, HB5.out, by omega⟩
      · go_wp2_with fail
        go_loopg [86] s.opens.length (fun gk p wr => RelN w bb gk wr)
        case atStart => exact ⟨_, s, rfl, HA.out, HI.out, HB.out, by have := AtK.opens HA.out; omega⟩
        case round =>
          obtain ⟨n, s, hgk, hA, hI, hB, hnb⟩ := hrel
          have HA := Lib.hid hA
          have HI := Lib.hid hI
          have HB := Lib.hid hB
          clear hA hI hB
          go_wp2_with fail
          refine (k_nest HA.out).mono ?_
          rintro e w4 ⟨rfl, rfl⟩
          rcases List.eq_nil_or_concat s.opens with he | ⟨l0, m, he⟩
          · have hn0 : s.opens.length = 0 := by rw [he]; rfl
            rw [hn0]
            have HOP := Lib.hid he
            have HRUN := Lib.hid (show runS [] (s.code.map Ins.op) = some [] by have h := HI.out.1; rw [he] at h; exact h)
            have HOK := Lib.hid (all_right HI.out)
            clear hgk hn0 he
            go_wp2_with fail
            refine (k_done HA.out (by omega) 7 HOP.out (by decide) (by decide)).mono ?_
            rintro e w8 ⟨g, cap, rfl, ho, hA, c8⟩
            obtain ⟨L, hL⟩ : ∃ L, s.code.length = L := ⟨_, rfl⟩
            have hcell := fun i m hm j hj => row_cell ho (i := i) (m := m) hm j hj
            have hgl := (ho.lt g rfl).2
            rw [hL] at ho ⊢
            obtain ⟨LS, hLS⟩ : ∃ LS : ByteArray, (⟨s.locals.toArray⟩ : ByteArray) = LS := ⟨_, rfl⟩
            rw [hLS]
            have HA8 := Lib.hid (hA.alloc (.cells #[.int .i64 7, .string LS, .slice (some ⟨g, 0, none⟩) (L + 1) cap] 51))
            have HB8 := Lib.hid ((HB.out.trans (c8.mono HB.out.size)).alloc (Nat.le_trans HB.out.size c8.size) (.cells #[.int .i64 7, .string LS, .slice (some ⟨g, 0, none⟩) (L + 1) cap] 51))
            have HCE := Lib.hid hcell
            have HLL := Lib.hid hL
            have hLn : L < 500 := by obtain ⟨_, _, _, _, _, _, _, hf⟩ := hA; omega
            have hst := struct_yes s.code g cap (w8.alloc (.cells #[.int .i64 7, .string LS, .slice (some ⟨g, 0, none⟩) (L + 1) cap] 51)) (by omega) (by simp; omega) HRUN.out (fun i m hm j hj => (World.cell?_alloc_past _ _ _ hgl).trans (HCE.out i m hm j hj))
            rw [hL] at hst
            have HST := Lib.hid hst
            have hnz : (((L : Int) + 1) == 0) = false := beq_eq_false_iff_ne.2 (by omega)
            clear hA c8 ho hcell hL hLS hst
            go_wp2_with fail
            refine HST.out.mono ?_
            rintro e w9 ⟨rfl, c9⟩
            have f0 : w9.cell? ⟨w8.heap.size, 0, none⟩ = some (.int .i64 7) := cell_later c9 (by simp)
            have f2 : w9.cell? ⟨w8.heap.size, 2, none⟩ = some (.slice (some ⟨g, 0, none⟩) (L + 1) cap) := cell_later c9 (by simp)
            have F2 := Lib.hid f2
            have HA9 := Lib.hid (HA8.out.later c9)
            have HB9 := Lib.hid (HB8.out.trans (c9.mono HB8.out.size))
            have HC9 := Lib.hid (fun i m (hm : (s.code ++ [(⟨11, 0, 0⟩ : Ins)])[i]? = some m) j (hj : j < 4) => row_later ((World.cell?_alloc_past (.cells #[.int .i64 7, .string LS, .slice (some ⟨g, 0, none⟩) (L + 1) cap] 51) _ _ hgl).trans (HCE.out i m hm j hj)) c9 hj)
            clear c9 HST f2
            have f2 := F2.out
            go_wp2_with fail
            go_loopw [12] (fun i wr => RelZ w9 L i wr) (fun i _ => L + 1 - (intOf i).toNat)
            case atStart => exact ⟨0, Nat.zero_le _, rfl, Below.refl _ _⟩
            case round =>
              obtain ⟨q, hq, rfl, hZ⟩ := hrel
              have HZ := Lib.hid hZ
              have z2 : wr.cell? ⟨w8.heap.size, 2, none⟩ = some (.slice (some ⟨g, 0, none⟩) (L + 1) cap) := cell_later hZ F2.out
              by_cases hlq : q < L + 1
              · obtain ⟨⟨mo, ma, mb⟩, hm⟩ : ∃ m, (s.code ++ [(⟨11, 0, 0⟩ : Ins)])[q]? = some m := ⟨_, List.getElem?_eq_getElem (by rw [List.length_append, HLL.out]; exact hlq)⟩
                have y0 : wr.cell? ⟨g, q * 4, none⟩ = some (.int .i64 mo) := row_later (j := 0) (HC9.out q _ hm 0 (by decide)) hZ (by decide)
                have y1 : wr.cell? ⟨g, q * 4 + 1, none⟩ = some (.int .i64 ma) := row_later (j := 1) (HC9.out q _ hm 1 (by decide)) hZ (by decide)
                have y2 : wr.cell? ⟨g, q * 4 + 2, none⟩ = some (.int .i64 mb) := row_later (j := 2) (HC9.out q _ hm 2 (by decide)) hZ (by decide)
                have y3 : wr.cell? ⟨g, q * 4 + 3, none⟩ = some (.slice none 0 0) := row_later (j := 3) (HC9.out q _ hm 3 (by decide)) hZ (by decide)
                have HRT := Lib.hid (HOK.out _ (List.mem_of_getElem? hm))
                have hdq : decide ((q : Int) < (L : Int) + 1) = true := decide_eq_true (by omega)
                clear hm hZ
                go_wp2_with fail
                refine (right_v mo ma mb none 0 wr ((HA9.out.later HZ.out).env.op) (right_wf HRT.out) true HRT.out).mono ?_
                rintro e w10 ⟨rfl, c10⟩
                have HZ2 := Lib.hid (HZ.out.trans (c10.mono HZ.out.size))
                clear c10
                go_wp2_with fail
                go_roundw
                case rel => exact ⟨q + 1, by omega, by go_num, HZ2.out⟩
                case measure => simp [intOf]; omega
              · obtain rfl : q = L + 1 := by omega
                have hdq : decide (((L + 1 : Nat) : Int) < (L : Int) + 1) = false := decide_eq_false (by omega)
                have HA10 := Lib.hid (HA9.out.later hZ)
                have HB10 := Lib.hid (HB9.out.trans (hZ.mono HB9.out.size))
                have Y11 := Lib.hid (show wr.cell? ⟨g, L * 4, none⟩ = some (.int .i64 11) from row_later (j := 0) (m := ⟨11, 0, 0⟩) (HC9.out L _ (by rw [← HLL.out]; simp) 0 (by decide)) hZ (by decide))
                have Z2 := Lib.hid z2
                have Z0 := Lib.hid (show wr.cell? ⟨w8.heap.size, 0, none⟩ = some (.int .i64 7) from cell_later hZ f0)
                rw [show (((L + 1 : Nat) : Int)) = (L : Int) + 1 by omega]
                rw [show (((L + 1 : Nat) : Int)) = (L : Int) + 1 by omega] at hdq
                clear hZ z2
                go_wp2_with fail
                have hnop : opR s [110, 111, 112] 0 0 = (0, { s with code := s.code ++ [⟨1, 0, 0⟩] }) := by
                  unfold opR
                  rw [show opOk [110, 111, 112] 0 0 = some 1 by kernel_rfl]
                refine (k_op HA10.out (by omega) ⟨#[110, 111, 112]⟩ 0 0 (by unfold maxLen; decide) 0 _ hnop).mono ?_
                rintro e w11 ⟨rfl, hA, hS⟩
                have HY := Lib.hid (hS.cell (b := g) (j := L * 4) (.inl (.inr rfl)) Y11.out)
                have HZ2 := Lib.hid (hS.cell (b := w8.heap.size) (j := 2) (.inr rfl) Z2.out)
                have HA11 := Lib.hid hA
                have HB11 := Lib.hid (HB10.out.trans hS.1)
                clear hA hS hnop
                go_wp2_with fail
                refine (k_done HA11.out (by omega) 7 HOP.out (by decide) (by decide)).mono ?_
                rintro e w12 ⟨g2, cap2, rfl, ho2, hA12, c12⟩
                have hcl : ({ s with code := s.code ++ [⟨1, 0, 0⟩] } : St).code.length = L + 1 := by show (s.code ++ [(⟨1, 0, 0⟩ : Ins)]).length = L + 1; rw [List.length_append, HLL.out]; rfl
                have v1 : w12.cell? ⟨g2, L * 4, none⟩ = some (.int .i64 1) := row_cell ho2 (i := L) (m := ⟨1, 0, 0⟩) (by show ((s.code ++ [(⟨1, 0, 0⟩ : Ins)]) ++ [(⟨11, 0, 0⟩ : Ins)])[L]? = _; rw [← HLL.out]; simp) 0 (by decide)
                have hg2l := (ho2.lt g2 rfl).2
                have v2 : w12.cell? ⟨g, L * 4, none⟩ = some (.int .i64 11) := cell_later c12 HY.out
                have v3 : w12.cell? ⟨w8.heap.size, 2, none⟩ = some (.slice (some ⟨g, 0, none⟩) (L + 1) cap) := cell_later c12 HZ2.out
                have hgl12 : g < w12.heap.size := World.block_lt_of_cell? _ _ v2
                have hfl12 : w8.heap.size < w12.heap.size := World.block_lt_of_cell? _ _ v3
                rw [hcl]
                have HB12 := Lib.hid (HB11.out.trans (c12.mono HB11.out.size))
                clear c12 hA12 ho2 hcl
                go_wp2_with fail
                go_ret
                exact ⟨rfl, HB12.out.alloc HB12.out.size _⟩
          · rw [List.concat_eq_append] at he
            have hlen : s.opens.length = l0.length + 1 := by rw [he]; simp
            have hpos : decide (0 < s.opens.length) = true := decide_eq_true (by omega)
            obtain ⟨s2, hR, hs2⟩ : ∃ s2, closeR s = (0, s2) ∧ s2.opens.length = l0.length := by
              unfold closeR
              rw [he, show (l0 ++ [m]).getLast? = some m by simp, show (l0 ++ [m]).dropLast = l0 by simp]
              exact ⟨_, rfl, rfl⟩
            have HI2 := Lib.hid (inv_close HI.out hR)
            have HR := Lib.hid hR
            clear hR he
            go_wp2_with fail
            refine (k_close HA.out (by omega) 0 s2 HR.out).mono ?_
            rintro e w5 ⟨rfl, hA5, hS5⟩
            have HA5 := Lib.hid hA5
            have HB5 := Lib.hid (HB.out.trans hS5.1)
            clear hA5 hS5
            go_wp2_with fail
            go_roundg l0.length
            case measure => omega
            case rel => exact ⟨n + 1, s2, hs2, HA5.out, HI2.out, HB5.out, by omega⟩
end Go.Proofs.YtlbgbpgjccbbjaaDoor.Asm
