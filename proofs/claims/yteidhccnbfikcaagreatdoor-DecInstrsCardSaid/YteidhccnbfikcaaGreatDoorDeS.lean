/-
  ModInts, ModSamePl, ModRefH, DecInO in one.
-/
import Derived.Test.YteidhccnbfikcaaGreatDoorOpRg
import Derived.Test.YteidhccnbfikcaaGreatDoorModMem
import Derived.Deep.QuietTactic
import Derived.BigQuiet
import Derived.Test.YteidhccnbfikcaaGreatDoorDeB
/- ModInts: Labels in memory, cell by cell. Plain but for the model's memory. -/
namespace Go.Proofs.YteidhccnbfikcaaGreatDoor.Mod
open Go.RowKit Go.Maps Go.Proofs.YteidhccnbfikcaaGreatDoor.Op
set_option linter.unusedVariables false
theorem ints_cells {w : World} {la : Option Addr} {n cp : Nat} {zs : List Int} (h : IntsAt w (.slice la n cp) zs) : ∀ j z, zs[j]? = some z → ∃ lb lo, la = some ⟨lb, lo, none⟩ ∧ w.cell? ⟨lb, lo + j, none⟩ = some (.int .i64 z) := by
  intro j z hz
  rcases h with ⟨_, rfl⟩ | ⟨b, off, c, hv, _, hc⟩ | ⟨_, _, _, rfl⟩
  · simp at hz
  · simp only [Value.slice.injEq] at hv
    exact ⟨b, off, hv.1, hc j z hz⟩
  · simp at hz
end Go.Proofs.YteidhccnbfikcaaGreatDoor.Mod

/- ModSamePl: Modules that are the same: plain words (out of ModEq, ModSame). No condition but what each theorem names. -/
namespace Go.Proofs.YteidhccnbfikcaaGreatDoor.Mod
open Go.RowKit Go.Maps Go.Proofs.YteidhccnbfikcaaGreatDoor.Op
set_option linter.unusedVariables false
theorem below_drewN {B : Nat} {a w : World} (h : Below B a w) (n : Nat) : Below B a (w.drewN n) := ⟨h.os, h.tape, h.output, h.size, h.block⟩
def eqS (a b : ByteArray) : Bool := a.toList == b.toList
def eq_ft (x y : FT) : Bool := (eqS x.params y.params) && (eqS x.results y.results)
def eq_mem (x y : MemP) : Bool := (x.least == y.least) && (x.most == y.most)
def eq_glob (x y : GlobP) : Bool := (x.ty == y.ty) && (x.mut_ == y.mut_) && (x.init == y.init)
def eq_exp (x y : ExpP) : Bool := (eqS x.name y.name) && (x.kind == y.kind) && (x.index == y.index)
def eq_data (x y : DataP) : Bool := (x.offset == y.offset) && (eqS x.bytes y.bytes)
/-- two lists of as many, each the same -/
def sameL {α : Type} (eq : α → α → Bool) : List α → List α → Bool
  | [], [] => true
  | x :: xs, y :: ys => eq x y && sameL eq xs ys
  | _, _ => false
def sameIns (x y : InsL) : Bool := x.op == y.op && (x.a == y.a && (x.b == y.b && x.labels == y.labels))
def sameFn (x y : FuncP) : Bool := x.ty == y.ty && (eqS x.locals y.locals && sameL sameIns x.code y.code)
def sameM (a b : ModP) : Bool := a.start == b.start && (sameL eq_ft a.types b.types && (sameL sameFn a.funcs b.funcs && (sameL eq_mem a.memory b.memory && (sameL eq_glob a.globals b.globals && (sameL eq_exp a.exports b.exports && sameL eq_data a.data b.data)))))
def pairP {α : Type} (eq : α → α → Bool) (l m : List α) (j : Nat) : Bool := match l[j]?, m[j]? with
  | some x, some y => eq x y
  | _, _ => true
theorem pairP_some {α : Type} {eq : α → α → Bool} {l m : List α} {j : Nat} {x y : α} (h : l[j]? = some x) (h2 : m[j]? = some y) : pairP eq l m j = eq x y := by unfold pairP; rw [h, h2]
theorem anyN_succ (p : Nat → Bool) (n : Nat) : anyN p (n + 1) = (p 0 || anyN (fun j => p (j + 1)) n) := by
  unfold anyN
  rw [List.range_succ_eq_map]
  simp [List.any_map, Function.comp_def]
theorem sameL_eq {α : Type} (eq : α → α → Bool) : ∀ l m : List α, sameL eq l m = (decide (l.length = m.length) && !anyN (fun j => !pairP eq l m j) l.length)
  | [], [] => by simp [sameL, anyN]
  | [], y :: ys => by simp [sameL]
  | x :: xs, [] => by simp [sameL]
  | x :: xs, y :: ys => by
    show (eq x y && sameL eq xs ys) = _
    rw [sameL_eq eq xs ys, List.length_cons, anyN_succ]
    have h0 : pairP eq (x :: xs) (y :: ys) 0 = eq x y := pairP_some rfl rfl
    have h1 : ∀ j, pairP eq (x :: xs) (y :: ys) (j + 1) = pairP eq xs ys j := fun j => rfl
    rw [h0]
    simp only [h1, List.length_cons, Nat.add_right_cancel_iff]
    cases eq x y <;> cases decide (xs.length = ys.length) <;> simp
theorem code_forms {w : World} {v : Value} {l : List InsL} (h : CodeAt w v l) : ∃ a c, v = .slice a l.length c := by
  obtain ⟨la, c, hv, _⟩ := h.form
  exact ⟨la, c, hv⟩
def Labs (l : List InsL) : Prop := ∀ x ∈ l, x.labels.length ≤ 9223372036854775807
def isSl (v : Value) : Prop := ∃ a n c, v = .slice a n c
theorem ListAt.isSl {α : Type} {size : Nat} {R : World → List Value → α → Prop} {w : World} {v : Value} {l : List α} (h : ListAt size R w v l) : isSl v := by
  obtain ⟨la, c, hv, _⟩ := h.form
  exact ⟨la, _, c, hv⟩
end Go.Proofs.YteidhccnbfikcaaGreatDoor.Mod

/- ModRefH: What the reference's SameInstr of chapter 4 answers. No condition but that the labels have room. -/
namespace Go.Proofs.YteidhccnbfikcaaGreatDoor.Mod
open Go.RowKit Go.Maps Go.Proofs.YteidhccnbfikcaaGreatDoor.Op
set_option linter.unusedVariables false
set_option linter.unusedSimpArgs false
theorem drop_eq_cons {zs ys : List Int} {k : Nat} {z y : Int} (hz : zs[k]? = some z) (hy : ys[k]? = some y) : (zs.drop k == ys.drop k) = ((z == y) && (zs.drop (k + 1) == ys.drop (k + 1))) := by
  obtain ⟨h1, e1⟩ := List.getElem?_eq_some_iff.1 hz
  obtain ⟨h2, e2⟩ := List.getElem?_eq_some_iff.1 hy
  rw [List.drop_eq_getElem_cons h1, List.drop_eq_getElem_cons h2, e1, e2]
  rfl
set_option maxRecDepth 100000 in
set_option maxHeartbeats 4000000 in
theorem rsameI_any (o a b o2 a2 b2 : Int) (la mb : Option Addr) (c d : Nat) (zs ys : List Int) (w : World) (hz : IntsAt w (.slice la zs.length c) zs) (hy : IntsAt w (.slice mb ys.length d) ys) (hz2 : zs.length ≤ 4611686018427387904) (hy2 : ys.length ≤ 4611686018427387904) (ANS : Bool) (hA : sameIns ⟨o, a, b, zs⟩ ⟨o2, a2, b2, ys⟩ = ANS) :
    Calls Tryz.prog 20 #[.agg #[.int .i64 o, .int .i64 a, .int .i64 b, .slice la zs.length c], .agg #[.int .i64 o2, .int .i64 a2, .int .i64 b2, .slice mb ys.length d]] w fun e w' => e = .returned (.bool ANS) ∧ Below w.heap.size w w' := by
  have HLZ := Lib.hid (ints_cells hz)
  have HLY := Lib.hid (ints_cells hy)
  have HANS := Lib.hid (show (o == o2 && (a == a2 && (b == b2 && zs == ys))) = ANS from hA)
  obtain ⟨W1, hW1⟩ : ∃ W1, (w.alloc (.cells #[.int .i64 o, .int .i64 a, .int .i64 b, .slice la zs.length c] 33)).alloc (.cells #[.int .i64 o2, .int .i64 a2, .int .i64 b2, .slice mb ys.length d] 33) = W1 := ⟨_, rfl⟩
  have B0 := Lib.hid (show Below w.heap.size w W1 by rw [← hW1]; exact ((Below.refl _ _).alloc (Nat.le_refl _) _).alloc (by simp) _)
  have q0 : W1.cell? ⟨w.heap.size, 0, none⟩ = some (.int .i64 o) := by rw [← hW1]; simp
  have q1 : W1.cell? ⟨w.heap.size, 1, none⟩ = some (.int .i64 a) := by rw [← hW1]; simp
  have q2 : W1.cell? ⟨w.heap.size, 2, none⟩ = some (.int .i64 b) := by rw [← hW1]; simp
  have q3 : W1.cell? ⟨w.heap.size, 3, none⟩ = some (.slice la zs.length c) := by rw [← hW1]; simp
  have p0 : W1.cell? ⟨w.heap.size + 1, 0, none⟩ = some (.int .i64 o2) := by rw [← hW1]; simp
  have p1 : W1.cell? ⟨w.heap.size + 1, 1, none⟩ = some (.int .i64 a2) := by rw [← hW1]; simp
  have p2 : W1.cell? ⟨w.heap.size + 1, 2, none⟩ = some (.int .i64 b2) := by rw [← hW1]; simp
  have p3 : W1.cell? ⟨w.heap.size + 1, 3, none⟩ = some (.slice mb ys.length d) := by rw [← hW1]; simp
  have HW1 := Lib.hid hW1
  have Q3 := Lib.hid q3
  have P3 := Lib.hid p3
  clear hz hy hA hW1
  go_enter Tryz.func20, Tryz.ntmps20
  go_upto_region 1 with fail
  rw [HW1.out]
  cases e1 : (o == o2)
  · have e1' : (o != o2) = true := by rw [bne, e1]; rfl
    have HF := Lib.hid (show ANS = false by rw [← HANS.out, e1]; rfl)
    go_wp2_with fail
    go_ret
    exact ⟨by rw [HF.out]; rfl, B0.out⟩
  have e1' : (o != o2) = false := by rw [bne, e1]; rfl
  cases e2 : (a == a2)
  · have e2' : (a != a2) = true := by rw [bne, e2]; rfl
    have HF := Lib.hid (show ANS = false by rw [← HANS.out, e2]; simp)
    go_wp2_with fail
    go_ret
    exact ⟨by rw [HF.out]; rfl, B0.out⟩
  have e2' : (a != a2) = false := by rw [bne, e2]; rfl
  cases e3 : (b == b2)
  · have e3' : (b != b2) = true := by rw [bne, e3]; rfl
    have HF := Lib.hid (show ANS = false by rw [← HANS.out, e3]; simp)
    go_wp2_with fail
    go_ret
    exact ⟨by rw [HF.out]; rfl, B0.out⟩
  have e3' : (b != b2) = false := by rw [bne, e3]; rfl
  have HZY := Lib.hid (show (zs == ys) = ANS by rw [← HANS.out, e1, e2, e3]; rfl)
  by_cases hl : zs.length = ys.length
  · have e4 : ((zs.length : Int) == (ys.length : Int)) = true := by rw [beq_iff_eq]; omega
    have e4' : ((zs.length : Int) != (ys.length : Int)) = false := by rw [bne, e4]; rfl
    have HL := Lib.hid hl
    clear hl
    go_wp2_with fail
    clear q0 q1 q2 q3 p0 p1 p2 p3 e1 e1' e2 e2' e3 e3' e4 e4'
    go_loopw [5] (fun i wr => ∃ k : Nat, k ≤ zs.length ∧ i = .int .i64 k ∧ (zs.drop k == ys.drop k) = ANS ∧ Below W1.heap.size W1 wr) (fun i _ => zs.length - (Go.RowKit.intOf i).toNat)
    case atStart => exact ⟨0, Nat.zero_le _, rfl, HZY.out, Below.refl _ _⟩
    case round =>
      obtain ⟨k, hk, rfl, ha, hB⟩ := hrel
      have HA := Lib.hid ha
      have HB := Lib.hid hB
      have BW := Lib.hid (B0.out.trans (hB.mono B0.out.size))
      have q3 := cell_later hB Q3.out
      have p3 := cell_later hB P3.out
      clear ha hB
      by_cases hlt : k < zs.length
      · have d1 : decide ((k : Int) < (zs.length : Int)) = true := decide_eq_true (by omega)
        have d1' : decide (k < zs.length) = true := decide_eq_true hlt
        obtain ⟨z, hm⟩ : ∃ z, zs[k]? = some z := ⟨_, List.getElem?_eq_getElem hlt⟩
        obtain ⟨y, hn⟩ : ∃ y, ys[k]? = some y := ⟨_, List.getElem?_eq_getElem (by have := HL.out; omega)⟩
        obtain ⟨lb, lo, rfl, hq⟩ := HLZ.out k z hm
        obtain ⟨mb', mo, rfl, hp⟩ := HLY.out k y hn
        have qz : wr.cell? ⟨lb, lo + k, none⟩ = some (.int .i64 z) := cell_later BW.out hq
        have py : wr.cell? ⟨mb', mo + k, none⟩ = some (.int .i64 y) := cell_later BW.out hp
        have hlty : k < ys.length := by have := HL.out; omega
        have hltz : (k : Int) < (zs.length : Int) := by omega
        have hlty2 : (k : Int) < (ys.length : Int) := by omega
        have HD := Lib.hid (drop_eq_cons hm hn)
        clear hm hn hq hp
        cases e5 : (z == y)
        · have e5' : (z != y) = true := by rw [bne, e5]; rfl
          have HF := Lib.hid (show ANS = false by rw [← HA.out, HD.out, e5]; rfl)
          go_upto_region 6 with fail
          go_quiet (fail)
          go_wp2_with fail
          go_ret
          exact ⟨by rw [HF.out]; rfl, BW.out.trans ⟨rfl, rfl, rfl, Nat.le_refl _, fun _ _ => rfl⟩⟩
        · have e5' : (z != y) = false := by rw [bne, e5]; rfl
          have HN := Lib.hid (show (zs.drop (k + 1) == ys.drop (k + 1)) = ANS by rw [← HA.out, HD.out, e5]; rfl)
          go_upto_region 6 with fail
          go_quiet (fail)
          go_wp2_with fail
          go_roundw
          case rel => exact ⟨k + 1, by omega, by go_num, HN.out, HB.out.trans ⟨rfl, rfl, rfl, Nat.le_refl _, fun _ _ => rfl⟩⟩
          case measure => simp [Go.RowKit.intOf]; omega
      · obtain rfl : k = zs.length := by omega
        have d1 : decide ((zs.length : Int) < (zs.length : Int)) = false := decide_eq_false (by omega)
        have d1' : decide (zs.length < zs.length) = false := decide_eq_false hlt
        have HT := Lib.hid (show ANS = true by rw [← HA.out, List.drop_length, HL.out, List.drop_length]; rfl)
        go_wp2_with fail
        go_ret
        exact ⟨by rw [HT.out]; rfl, BW.out⟩
  · have e4 : ((zs.length : Int) == (ys.length : Int)) = false := by rw [beq_eq_false_iff_ne]; omega
    have e4' : ((zs.length : Int) != (ys.length : Int)) = true := by rw [bne, e4]; rfl
    have HF := Lib.hid (show ANS = false by rw [← HZY.out, beq_eq_false_iff_ne]; exact fun h => hl (by rw [h]))
    clear hl
    go_wp2_with fail
    go_ret
    exact ⟨by rw [HF.out]; rfl, B0.out⟩
end Go.Proofs.YteidhccnbfikcaaGreatDoor.Mod

/- DecInO: Labels of an own row, as a slice of numbers. Plain but for the model's memory. -/
namespace Go.Proofs.YteidhccnbfikcaaGreatDoor.Dec
open Go.RowKit Go.Maps Go.Proofs.YteidhccnbfikcaaGreatDoor.Op Go.Proofs.YteidhccnbfikcaaGreatDoor.Mod Go.Proofs.YteidhccnbfikcaaGreatDoor.Leb Go.Proofs.YteidhccnbfikcaaGreatDoor.Enc
set_option linter.unusedVariables false
theorem ints_own {W : World} {B : Nat} {v : Value} {zs : List Int} (h : OwnAt W B 3 1 v (cellsI zs)) (hl : zs.length ≤ 4096) : IntsAt W v zs := by
  have hlen : (cellsI zs).length = zs.length := by unfold cellsI; rw [List.length_map]
  have hr := OwnAt.row h (by decide) (by rw [hlen]; omega)
  obtain ⟨la, c, rfl, hle, hq⟩ := hr
  rw [hlen] at hle ⊢
  cases zs with
  | nil => exact .inr (.inr ⟨la, c, rfl, rfl⟩)
  | cons z zs =>
    obtain ⟨_, b, off, rfl, hb, _⟩ := hq 0 _ rfl
    refine .inr (.inl ⟨b, off, c, rfl, hb, fun j y hy => ?_⟩)
    obtain ⟨_, b', off', e, _, hc⟩ := hq j [.int .i64 y] (by unfold cellsI; rw [List.getElem?_map, hy]; rfl)
    obtain ⟨rfl, rfl⟩ : b = b' ∧ off = off' := by simpa using e
    have := hc 0 _ rfl
    rw [Nat.mul_one, Nat.add_zero] at this
    exact this
end Go.Proofs.YteidhccnbfikcaaGreatDoor.Dec
