/-
  What package op's Code answers. No condition beyond what each theorem names.
-/
import Derived.Test.YtlbgbpgjccbbjaaDoorOpOf
import Derived.Maps.RangeWalk
namespace Go.Proofs.YtlbgbpgjccbbjaaDoor.Op
open Go.RowKit Go.Maps
set_option linter.unusedVariables false
theorem eqT {a b : ByteArray} (h : a.data.toList = b.data.toList) : (a.toList == b.toList) = true := by rw [ByteArray.toList_eq, ByteArray.toList_eq, h]; simp
theorem eqF {a b : ByteArray} (h : a.data.toList ≠ b.data.toList) : (a.toList == b.toList) = false := by rw [ByteArray.toList_eq, ByteArray.toList_eq]; simpa using h
def codeOf (nm : List UInt8) : Option Int := (tableL.find? fun e => e.2.name.data.toList == nm).map (·.1)
def apartB : List (Int × Info) → Bool
  | [] => true
  | e :: l => (l.all fun x => !(x.2.name.data.toList == e.2.name.data.toList)) && apartB l
theorem names_apart : apartB tableL = true := by kernel_rfl
theorem find_name (c : Int) (i : Info) (nm : List UInt8) (hn : i.name.data.toList = nm) : ∀ (l : List (Int × Info)), apartB l = true → (c, i) ∈ l → l.find? (fun e => e.2.name.data.toList == nm) = some (c, i)
  | [], _, h => by cases h
  | e :: l, ha, h => by
    simp only [apartB, Bool.and_eq_true, List.all_eq_true] at ha
    rw [List.find?_cons]
    rcases List.mem_cons.1 h with rfl | h
    · simp [hn]
    · have h1 := ha.1 (c, i) h
      have h2 : (e.2.name.data.toList == nm) = false := by
        rw [← hn]
        cases hb : (e.2.name.data.toList == i.name.data.toList)
        · rfl
        · have e2 := eq_of_beq hb
          simp [e2] at h1
      rw [h2]
      exact find_name c i nm hn l ha.2 h
theorem code_of {c : Int} {i : Info} {nm : List UInt8} (h : opInfo c = some i) (hn : i.name.data.toList = nm) : codeOf nm = some c := by
  unfold codeOf
  rw [find_name c i nm hn tableL names_apart (opInfo_mem h)]
  rfl
theorem code_none {nm : List UInt8} (h : ∀ c i, opInfo c = some i → i.name.data.toList ≠ nm) : codeOf nm = none := by
  unfold codeOf
  rw [Option.map_eq_none_iff, List.find?_eq_none]
  intro e he hb
  have h1 := opInfo_of_mem (c := e.1) (i := e.2) he codes_apart
  exact h e.1 e.2 h1 (by simpa using hb)
def RelC (w : World) (nm : ByteArray) (b n : Nat) (r : Nat) (wr : World) : Prop := ∃ (left : Lit → Bool) (cnt : Nat), wr.ranges Tryd.prog 3 asIs b r n infoD left cnt ∧ Below w.heap.size w wr ∧ w.heap.size ≤ r ∧ (∀ c, left (.int .i64 c) = true → (opInfo c).isSome = true) ∧ ∀ c i, opInfo c = some i → left (.int .i64 c) = false → i.name.data.toList ≠ nm.data.toList
set_option maxRecDepth 100000 in
set_option maxHeartbeats 1000000 in
theorem code_any (nm : ByteArray) (w : World) (hE : OpEnv w) (v : Int) (b : Bool) (hv : (codeOf nm.data.toList).getD 0 = v) (hb : (codeOf nm.data.toList).isSome = b) :
    Calls Tryd.prog 16 #[.string nm] w fun e w' => e = .returned (.tuple #[.int .i64 v, .bool b]) ∧ Below w.heap.size w w' := by
  have HE := Lib.hid hE
  have HV := Lib.hid hv
  have HB := Lib.hid hb
  clear hE hv hb
  go_enter Tryd.func16, Tryd.ntmps16
  go_wp2_with fail
  refine (all_any _ HE.out).mono ?_
  rintro e w1 ⟨mb, n, rfl, hown, c1, hle⟩
  go_wp2_with (at_range; refine wpList_range_own _ rfl _ 74 rfl 3 24 keyed_int Tryd.underlying74 _ mb n _ rfl hown ?_; intro w0 hrg0 hg0 hs0)
  have B0 : Below w.heap.size w w0 := c1.grown hg0 c1.size (fun k hk => by cases hk)
  have hr0 : w.heap.size ≤ w1.heap.size := c1.size
  have H0 : RelC w nm mb n w1.heap.size w0 := ⟨_, _, hrg0, B0, hr0, fun c hc => by rw [← has_eq]; exact hc, fun c i hi hc => by rw [has_eq, hi] at hc; cases hc⟩
  clear hown hrg0 hg0 hs0 B0
  go_frame
  go_loopw [8] (fun _ wr => RelC w nm mb n w1.heap.size wr) (fun _ wr => wr.rangeLeft mb w1.heap.size)
  case atStart => exact H0
  case round =>
    obtain ⟨left, cnt, hrg, hbel, hwr, hlh, hdone⟩ := hrel
    have HD := Lib.hid hdone
    have HLH := Lib.hid hlh
    clear hdone hlh
    go_wp2_with (at_next; refine wpList_next_ranges _ rfl _ rfl 3 keyed_int asIs (Value.int .i64) id (fun key kl hkey => by obtain ⟨x, rfl, _⟩ := Maps.keyOf_int_inv Tryd.underlying3 hkey; exact ⟨x, rfl⟩) (fun v y hv => ⟨v, rfl⟩) mb w1.heap.size n _ _ _ rfl hrg ?_ ?_)
    · intro _ hl0
      have hno := code_none (nm := nm.data.toList) (fun c i hi => HD.out c i hi (hl0 _))
      have h1 := HV.out
      have h2 := HB.out
      rw [hno] at h1 h2
      obtain rfl : v = 0 := h1.symm
      obtain rfl : b = false := h2.symm
      clear h1 h2 hno hl0
      go_wp2_with fail
      go_ret2
      exact ⟨rfl, hbel⟩
    · intro x c kl yd yp w2 cnt1 hkey hlk hv hat hrg1 hlt hg1 hs1 hen
      obtain ⟨x', ex, rfl, hwx⟩ := Maps.keyOf_int_inv Tryd.underlying3 hkey
      cases ex
      have hat2 := hat (.held zeroI.toV)
      rw [atKey_eq] at hat2
      obtain ⟨i, hi⟩ := Option.isSome_iff_exists.1 (HLH.out x hlk)
      rw [hi] at hat2
      have hcv : c = i.toV := by
        have h9 := congrArg Prod.fst (Option.some.inj hv)
        exact held_inj (h9.trans hat2.symm)
      subst hcv
      have B1 : Below w.heap.size w w2 := hbel.grown hg1 hbel.size (fun k hk => by cases hk; exact hwr)
      have hsx : w1.heap.size < w2.heap.size := by rw [hs1]; exact hrg.lt
      have hrn : RelC w nm mb n w1.heap.size (w2.alloc (.cells #[.string i.name, .int .i64 i.shape, .string i.params, .string i.results] 24)) ∨ i.name.data.toList = nm.data.toList := by
        by_cases he : i.name.data.toList = nm.data.toList
        · exact .inr he
        · refine .inl ⟨_, cnt1, hrg1.alloc _, B1.alloc B1.size _, hwr, fun c hc => HLH.out c (by simp at hc; exact hc.1), fun c i2 hi2 hc => ?_⟩
          by_cases hcx : c = x
          · subst hcx
            rw [hi] at hi2
            obtain rfl := Option.some.inj hi2
            exact he
          · refine HD.out c i2 hi2 ?_
            cases hl : left (.int .i64 c)
            · rfl
            · rw [hl] at hc
              simp [Lit.sameKey, hcx] at hc
      have HRN := Lib.hid hrn
      have HLT := Lib.hid hlt
      have HLE := Lib.hid (show (w2.alloc (.cells #[.string i.name, .int .i64 i.shape, .string i.params, .string i.results] 24)).rangeLeft mb w1.heap.size = cnt1 from (hrg1.alloc _).left_eq)
      have HLE0 := Lib.hid hrg.left_eq
      have HI := Lib.hid hi
      clear hrn hv hat hat2 hkey hlk hrg1 hrg hlt hg1 hs1 hi
      obtain ⟨inm, ish, ipa, ire⟩ := i
      change (Instr.entry _).run _ _ = .ok (.tuple #[.int .i64 x, .agg #[.string inm, .int .i64 ish, .string ipa, .string ire]]) w2 at hen
      rw [show Info.toV ⟨inm, ish, ipa, ire⟩ = .agg #[.string inm, .int .i64 ish, .string ipa, .string ire] from rfl]
      by_cases he : inm.data.toList = nm.data.toList
      · have hq := eqT he
        have h1 := HV.out
        have h2 := HB.out
        rw [code_of HI.out he] at h1 h2
        obtain rfl : v = x := h1.symm
        obtain rfl : b = true := h2.symm
        clear h1 h2 he
        go_wp2_with fail
        go_ret2
        exact ⟨rfl, B1.alloc B1.size _⟩
      · have hq := eqF he
        have HR := Lib.hid (HRN.out.resolve_right he)
        clear he HRN
        go_wp2_with fail
        go_roundw
        case rel => exact HR.out
        case measure => rw [HLE.out, HLE0.out]; exact HLT.out
end Go.Proofs.YtlbgbpgjccbbjaaDoor.Op
