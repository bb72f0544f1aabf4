/-
  EncIns, EncCl in one.
-/
import Derived.Test.YtmfdabkmijbffaaGreatDoorEnA
import Derived.Test.YtmfdabkmijbffaaGreatDoorOpOf
/- EncIns: What package enc's instr answers, of any instruction that lies in memory and what is known of its code. No condition beyond what each theorem names. -/
namespace Go.Proofs.YtmfdabkmijbffaaGreatDoor.Enc
open Go.RowKit Go.Maps Go.Proofs.YtmfdabkmijbffaaGreatDoor.Op Go.Proofs.YtmfdabkmijbffaaGreatDoor.Mod Go.Proofs.YtmfdabkmijbffaaGreatDoor.Leb Go.Proofs.YtmfdabkmijbffaaGreatDoor.Bytes
set_option linter.unusedVariables false
theorem wrap_byte (n : Int) : (byteOf n).toNat = (n % 256 : Int) := by
  unfold byteOf
  rw [show (UInt8.ofNat (n % 256).toNat).toNat = (n % 256).toNat from toNat_ofNat (by omega)]
  omega
/-- a new slice of bytes, read as a string -/
theorem str_row {W : World} {g n : Nat} {l : List UInt8} (hn : l.length = n) (hc : ∀ (j : Nat) x, l[j]? = some x → W.cell? ⟨g, j, none⟩ = some (.int .u8 (x.toNat : Int))) :
    (convert 45 9 (.slice (some ⟨g, 0, none⟩) n n)).run Tryz.prog W = .ok (.string (bs l)) W := by
  have h := run_convert_bytes_arg W 45 5 Tryz.underlying45 Tryz.underlying5 g 0 n n (l.map fun b => (b.toNat : Int)) (by simpa using hn) (fun i hi => by
    have hi' : i < l.length := by omega
    rw [Nat.zero_add, hc i _ (List.getElem?_eq_getElem hi')]
    simp [List.getElem?_eq_getElem hi', List.getD]) 9 Tryz.underlying9
  have e : strOfNums (l.map fun b => (b.toNat : Int)) = bs l := by
    unfold bs strOfNums
    rw [List.map_map]
    have h2 : ((fun n : Int => UInt8.ofNat n.toNat) ∘ fun b : UInt8 => (b.toNat : Int)) = id := by funext b; simp
    rw [h2, List.map_id]
  rw [e] at h
  exact h
theorem one_str (W : World) (n : Int) : (convert 45 9 (.slice (some ⟨W.heap.size, 0, none⟩) 1 1)).run Tryz.prog (W.alloc (.cells #[.int .u8 (n % 256)] 5)) = .ok (.string (bs [byteOf n])) (W.alloc (.cells #[.int .u8 (n % 256)] 5)) :=
  str_row rfl fun j x hx => by
    match j, hx with
    | 0, hx =>
      simp at hx
      subst hx
      rw [wrap_byte]
      simp
def labelRows (zs : List Int) : List (List Value) := zs.map fun z => [.int .i64 z]
theorem row_of_ints {w : World} {lv : Value} {zs : List Int} (h : IntsAt w lv zs) (hz : zs.length ≤ 9223372036854775807) : RowAt w 1 lv (labelRows zs) := by
  have hl : (labelRows zs).length = zs.length := by simp [labelRows]
  have hrow : ∀ (i : Nat) r, (labelRows zs)[i]? = some r → ∃ z, zs[i]? = some z ∧ r = [.int .i64 z] := fun i r hr => by
    unfold labelRows at hr
    rw [List.getElem?_map, Option.map_eq_some_iff] at hr
    obtain ⟨z, h1, h2⟩ := hr
    exact ⟨z, h1, h2.symm⟩
  rcases h with ⟨rfl, rfl⟩ | ⟨b, off, c, rfl, hb, hc⟩ | ⟨a, c, rfl, rfl⟩
  · exact ⟨none, 0, rfl, hl ▸ hz, fun i r hr => by cases i <;> cases hr⟩
  · refine ⟨some ⟨b, off, none⟩, c, by rw [hl], hl ▸ hz, fun i r hr => ?_⟩
    obtain ⟨z, h1, rfl⟩ := hrow i r hr
    refine ⟨rfl, b, off, rfl, hb, fun j u hu => ?_⟩
    match j, hu with
    | 0, hu =>
      obtain rfl := Option.some.inj hu
      rw [Nat.mul_one, Nat.add_zero]
      exact hc i z h1
  · exact ⟨a, c, rfl, hl ▸ hz, fun i r hr => by cases i <;> cases hr⟩
theorem flat_nums_len (zs : List Int) : (zs.flatMap numL).length ≤ zs.length * 10 := by
  induction zs with
  | nil => simp
  | cons z zs ih =>
    rw [List.flatMap_cons, List.length_append, List.length_cons, Nat.add_mul]
    have := num_len z
    omega
set_option maxRecDepth 100000 in
set_option maxHeartbeats 1000000 in
theorem enclist_labels (lv : Value) (zs : List Int) (w : World) (hl : IntsAt w lv zs) (hz : zs.length ≤ 1000000000000) :
    Calls Tryz.prog 132 #[lv, .func (.func 47) #[] #[]] w fun e w' => e = .returned (.string (bs (listL numL zs))) ∧ Below w.heap.size w w' := by
  have hr := row_of_ints hl (by omega)
  obtain ⟨la, c, rfl, _, _⟩ := row_of_ints hl (by omega)
  have hlen : (labelRows zs).length = zs.length := by simp [labelRows]
  have hout : outs (fun j => numL (zs.getD j 0)) (labelRows zs).length = zs.flatMap numL := by
    rw [hlen]
    exact outs_list numL _ zs fun j x hx => by rw [List.getD_eq_getElem?_getD, hx]; rfl
  have eg : ∀ args w, (callFunc 47 args).run Tryz.prog w = .ok (.enter 47 args) w := enters_of Tryz.func47 (by kernel_rfl) rfl
  have hform : ∀ (j : Nat) (r : List Value), (labelRows zs)[j]? = some r → ∃ (e0 : Int), r = [(.int .i64 e0)] := by
    intro j r hrj
    unfold labelRows at hrj
    rw [List.getElem?_map, Option.map_eq_some_iff] at hrj
    obtain ⟨z, _, h2⟩ := hrj
    exact ⟨z, h2.symm⟩
  have hone : ∀ (W : World) (j : Nat) (r : List Value), (labelRows zs)[j]? = some r → Below w.heap.size w W → w.heap.size ≤ W.heap.size → Calls Tryz.prog 47 (#[(r.getD 0 undef)] ++ #[]) W fun e w' => e = .returned (.string (bs (numL (zs.getD j 0)))) ∧ Below w.heap.size w w' ∧ Keeps (fun _ => False) W w' := by
    intro W j r hrj hI hsz
    unfold labelRows at hrj
    rw [List.getElem?_map, Option.map_eq_some_iff] at hrj
    obtain ⟨z, h1, rfl⟩ := hrj
    rw [show zs.getD j 0 = z by rw [List.getD_eq_getElem?_getD, h1]; rfl, show (#[([.int .i64 z] : List Value).getD 0 undef] ++ #[] : Array Value) = #[.int .i64 z] from rfl]
    refine (number_int z W).mono ?_
    rintro e w' ⟨rfl, c1⟩
    exact ⟨rfl, hI.trans (c1.mono hI.size), .of_below c1⟩
  have hroom : (numL (labelRows zs).length).length + (outs (fun j => numL (zs.getD j 0)) (labelRows zs).length).length ≤ 140737488355328 := by
    rw [hout, hlen]
    have h1 := flat_nums_len zs
    have h2 := num_len zs.length
    omega
  have h := enclist_int la c (labelRows zs) (fun j => numL (zs.getD j 0)) _ #[] eg (fun _ W => Below w.heap.size w W) (fun _ => False) w (fun k hk => hk.elim) (Below.refl _ _) (fun j W W' h1 h2 h3 => h1.trans h3) hform (fun j W hW => hr.later hW) hone hroom
  rw [hout, hlen] at h
  rw [hlen]
  refine h.mono ?_
  rintro e w' ⟨rfl, h1, _⟩
  exact ⟨rfl, h1⟩
abbrev HeldI (w : World) (op a b : Int) (lv : Value) (W : World) : Prop := W.cell? ⟨w.heap.size, 0, none⟩ = some (.int .i64 op) ∧ W.cell? ⟨w.heap.size, 1, none⟩ = some (.int .i64 a) ∧ W.cell? ⟨w.heap.size, 2, none⟩ = some (.int .i64 b) ∧ W.cell? ⟨w.heap.size, 3, none⟩ = some lv ∧ Below w.heap.size w W
theorem heldI_later {w : World} {op a b : Int} {lv : Value} {W W' : World} (c : Below W.heap.size W W') (h : HeldI w op a b lv W) : HeldI w op a b lv W' :=
  ⟨cell_later c h.1, cell_later c h.2.1, cell_later c h.2.2.1, cell_later c h.2.2.2.1, h.2.2.2.2.trans (c.mono h.2.2.2.2.size)⟩
set_option maxRecDepth 100000 in
set_option maxHeartbeats 4000000 in
theorem ins_s0 (op a b : Int) (la : Option Addr) (lc : Nat) (zs : List Int) (sh : Int) (hsh : ∀ k : Int, 1 ≤ k → k ≤ 7 → sh ≠ k) (nm ps rs : ByteArray) (w : World) (hl : IntsAt w (.slice la zs.length lc) zs) (ha : (Lit.int .i64 a).wf = true) (hz : zs.length ≤ 1000000000000) :
    Calls Tryz.prog 36 #[.agg #[.int .i64 op, .int .i64 a, .int .i64 b, .slice la zs.length lc], .agg #[.string nm, .int .i64 sh, .string ps, .string rs]] w fun e w' => e = .returned (.string (bs (byteOf op :: ([])))) ∧ Below w.heap.size w w' := by
  obtain ⟨W2, hW2⟩ : ∃ W2, (w.alloc (.cells #[.int .i64 op, .int .i64 a, .int .i64 b, .slice la zs.length lc] 33)).alloc (.cells #[.string nm, .int .i64 sh, .string ps, .string rs] 98) = W2 := ⟨_, rfl⟩
  have z2 : W2.heap.size = w.heap.size + 2 := by rw [← hW2]; simp
  have HI2 : HeldI w op a b (.slice la zs.length lc) W2 := by
    rw [← hW2]
    exact heldI_later ((Below.refl _ _).alloc (Nat.le_refl _) _) ⟨by simp, by simp, by simp, by simp, (Below.refl _ _).alloc (Nat.le_refl _) _⟩
  have s2 : W2.cell? ⟨w.heap.size + 1, 1, none⟩ = some (.int .i64 sh) := by
    have h := cell_of_row _ _ 1 _ _ _ (heap_alloc_new (w.alloc (.cells #[.int .i64 op, .int .i64 a, .int .i64 b, .slice la zs.length lc] 33)) (.cells #[.string nm, .int .i64 sh, .string ps, .string rs] 98))
    rw [hW2, show (w.alloc (.cells #[.int .i64 op, .int .i64 a, .int .i64 b, .slice la zs.length lc] 33)).heap.size = w.heap.size + 1 by simp] at h
    exact h
  have hcv := one_str W2 op
  rw [z2] at hcv
  obtain ⟨W3, hW3⟩ : ∃ W3, W2.alloc (.cells #[.int .u8 (op % 256)] 5) = W3 := ⟨_, rfl⟩
  have B3 : Below W2.heap.size W2 W3 := by rw [← hW3]; exact (Below.refl _ _).alloc (Nat.le_refl _) _
  have HI3 := heldI_later B3 HI2
  have s3 := cell_later B3 s2
  have HW2 := Lib.hid hW2
  have HW3 := Lib.hid hW3
  have HLV := Lib.hid hl
  obtain ⟨X, hX⟩ : ∃ X, bs [byteOf op] = X := ⟨_, rfl⟩
  have hXs : X.size = 1 := by rw [← hX, bs_size]; rfl
  have HX := Lib.hid hX
  have HXs := Lib.hid hXs
  rw [hX] at hcv
  have HH := Lib.hid HI3
  obtain ⟨q0, q1, q2, q3, q4⟩ := HI2
  obtain ⟨p0, p1, p2, p3, p4⟩ := HI3
  have z3 := B3.size
  have BB := Lib.hid p4
  clear hl hW2 hW3 B3 hX hXs q4 p4
  have h1 : (sh == 1) = false := by rw [beq_eq_false_iff_ne]; exact hsh 1 (by decide) (by decide)
  have h2 : (sh == 2) = false := by rw [beq_eq_false_iff_ne]; exact hsh 2 (by decide) (by decide)
  have h4 : (sh == 4) = false := by rw [beq_eq_false_iff_ne]; exact hsh 4 (by decide) (by decide)
  have h3 : (sh == 3) = false := by rw [beq_eq_false_iff_ne]; exact hsh 3 (by decide) (by decide)
  have h5 : (sh == 5) = false := by rw [beq_eq_false_iff_ne]; exact hsh 5 (by decide) (by decide)
  have h6 : (sh == 6) = false := by rw [beq_eq_false_iff_ne]; exact hsh 6 (by decide) (by decide)
  have h7 : (sh == 7) = false := by rw [beq_eq_false_iff_ne]; exact hsh 7 (by decide) (by decide)
  clear hsh
  go_enter Tryz.func36, Tryz.ntmps36
  go_upto_region 1 with fail
  rw [HW2.out]
  go_upto_region 2 with fail
  rw [HW3.out]
  clear hcv q0 q1 q2 q3 s2
  go_wp2_with fail
  go_ret
  exact ⟨by rw [← HX.out]; rfl, BB.out⟩
set_option maxRecDepth 100000 in
set_option maxHeartbeats 4000000 in
theorem ins_s1 (op a b : Int) (la : Option Addr) (lc : Nat) (zs : List Int) (nm ps rs : ByteArray) (w : World) (hl : IntsAt w (.slice la zs.length lc) zs) (ha : (Lit.int .i64 a).wf = true) (hz : zs.length ≤ 1000000000000) :
    Calls Tryz.prog 36 #[.agg #[.int .i64 op, .int .i64 a, .int .i64 b, .slice la zs.length lc], .agg #[.string nm, .int .i64 1, .string ps, .string rs]] w fun e w' => e = .returned (.string (bs (byteOf op :: ([byteOf a])))) ∧ Below w.heap.size w w' := by
  obtain ⟨W2, hW2⟩ : ∃ W2, (w.alloc (.cells #[.int .i64 op, .int .i64 a, .int .i64 b, .slice la zs.length lc] 33)).alloc (.cells #[.string nm, .int .i64 1, .string ps, .string rs] 98) = W2 := ⟨_, rfl⟩
  have z2 : W2.heap.size = w.heap.size + 2 := by rw [← hW2]; simp
  have HI2 : HeldI w op a b (.slice la zs.length lc) W2 := by
    rw [← hW2]
    exact heldI_later ((Below.refl _ _).alloc (Nat.le_refl _) _) ⟨by simp, by simp, by simp, by simp, (Below.refl _ _).alloc (Nat.le_refl _) _⟩
  have s2 : W2.cell? ⟨w.heap.size + 1, 1, none⟩ = some (.int .i64 1) := by
    have h := cell_of_row _ _ 1 _ _ _ (heap_alloc_new (w.alloc (.cells #[.int .i64 op, .int .i64 a, .int .i64 b, .slice la zs.length lc] 33)) (.cells #[.string nm, .int .i64 1, .string ps, .string rs] 98))
    rw [hW2, show (w.alloc (.cells #[.int .i64 op, .int .i64 a, .int .i64 b, .slice la zs.length lc] 33)).heap.size = w.heap.size + 1 by simp] at h
    exact h
  have hcv := one_str W2 op
  rw [z2] at hcv
  obtain ⟨W3, hW3⟩ : ∃ W3, W2.alloc (.cells #[.int .u8 (op % 256)] 5) = W3 := ⟨_, rfl⟩
  have B3 : Below W2.heap.size W2 W3 := by rw [← hW3]; exact (Below.refl _ _).alloc (Nat.le_refl _) _
  have HI3 := heldI_later B3 HI2
  have s3 := cell_later B3 s2
  have HW2 := Lib.hid hW2
  have HW3 := Lib.hid hW3
  have HLV := Lib.hid hl
  obtain ⟨X, hX⟩ : ∃ X, bs [byteOf op] = X := ⟨_, rfl⟩
  have hXs : X.size = 1 := by rw [← hX, bs_size]; rfl
  have HX := Lib.hid hX
  have HXs := Lib.hid hXs
  rw [hX] at hcv
  have HH := Lib.hid HI3
  obtain ⟨q0, q1, q2, q3, q4⟩ := HI2
  obtain ⟨p0, p1, p2, p3, p4⟩ := HI3
  have z3 := B3.size
  have BB := Lib.hid p4
  clear hl hW2 hW3 B3 hX hXs q4 p4
  go_enter Tryz.func36, Tryz.ntmps36
  go_upto_region 1 with fail
  rw [HW2.out]
  go_upto_region 2 with fail
  rw [HW3.out]
  clear hcv q0 q1 q2 q3 s2
  have hcv2 := one_str W3 a
  have hz33 : W3.heap.size = w.heap.size + 3 := by rw [← HW3.out]; simp; omega
  rw [hz33] at hcv2
  obtain ⟨Y, hY⟩ : ∃ Y, bs [byteOf a] = Y := ⟨_, rfl⟩
  have hYs : Y.size = 1 := by rw [← hY, bs_size]; rfl
  have HY := Lib.hid hY
  rw [hY] at hcv2
  have hz2 : ¬ 9223372036854775807 < X.size + Y.size := by rw [HXs.out, hYs]; decide
  clear hY hYs
  go_wp2_with fail
  go_ret
  exact ⟨by show _ = Ending.returned (.string (bs ([byteOf op] ++ [byteOf a]))); rw [← bs_app, HX.out, HY.out]; rfl, BB.out.alloc (by omega) _⟩
set_option maxRecDepth 100000 in
set_option maxHeartbeats 4000000 in
theorem ins_s2 (op a b : Int) (la : Option Addr) (lc : Nat) (zs : List Int) (nm ps rs : ByteArray) (w : World) (hl : IntsAt w (.slice la zs.length lc) zs) (ha : (Lit.int .i64 a).wf = true) (hz : zs.length ≤ 1000000000000) :
    Calls Tryz.prog 36 #[.agg #[.int .i64 op, .int .i64 a, .int .i64 b, .slice la zs.length lc], .agg #[.string nm, .int .i64 2, .string ps, .string rs]] w fun e w' => e = .returned (.string (bs (byteOf op :: (numL a)))) ∧ Below w.heap.size w w' := by
  obtain ⟨W2, hW2⟩ : ∃ W2, (w.alloc (.cells #[.int .i64 op, .int .i64 a, .int .i64 b, .slice la zs.length lc] 33)).alloc (.cells #[.string nm, .int .i64 2, .string ps, .string rs] 98) = W2 := ⟨_, rfl⟩
  have z2 : W2.heap.size = w.heap.size + 2 := by rw [← hW2]; simp
  have HI2 : HeldI w op a b (.slice la zs.length lc) W2 := by
    rw [← hW2]
    exact heldI_later ((Below.refl _ _).alloc (Nat.le_refl _) _) ⟨by simp, by simp, by simp, by simp, (Below.refl _ _).alloc (Nat.le_refl _) _⟩
  have s2 : W2.cell? ⟨w.heap.size + 1, 1, none⟩ = some (.int .i64 2) := by
    have h := cell_of_row _ _ 1 _ _ _ (heap_alloc_new (w.alloc (.cells #[.int .i64 op, .int .i64 a, .int .i64 b, .slice la zs.length lc] 33)) (.cells #[.string nm, .int .i64 2, .string ps, .string rs] 98))
    rw [hW2, show (w.alloc (.cells #[.int .i64 op, .int .i64 a, .int .i64 b, .slice la zs.length lc] 33)).heap.size = w.heap.size + 1 by simp] at h
    exact h
  have hcv := one_str W2 op
  rw [z2] at hcv
  obtain ⟨W3, hW3⟩ : ∃ W3, W2.alloc (.cells #[.int .u8 (op % 256)] 5) = W3 := ⟨_, rfl⟩
  have B3 : Below W2.heap.size W2 W3 := by rw [← hW3]; exact (Below.refl _ _).alloc (Nat.le_refl _) _
  have HI3 := heldI_later B3 HI2
  have s3 := cell_later B3 s2
  have HW2 := Lib.hid hW2
  have HW3 := Lib.hid hW3
  have HLV := Lib.hid hl
  obtain ⟨X, hX⟩ : ∃ X, bs [byteOf op] = X := ⟨_, rfl⟩
  have hXs : X.size = 1 := by rw [← hX, bs_size]; rfl
  have HX := Lib.hid hX
  have HXs := Lib.hid hXs
  rw [hX] at hcv
  have HH := Lib.hid HI3
  obtain ⟨q0, q1, q2, q3, q4⟩ := HI2
  obtain ⟨p0, p1, p2, p3, p4⟩ := HI3
  have z3 := B3.size
  have BB := Lib.hid p4
  clear hl hW2 hW3 B3 hX hXs q4 p4
  go_enter Tryz.func36, Tryz.ntmps36
  go_upto_region 1 with fail
  rw [HW2.out]
  go_upto_region 2 with fail
  rw [HW3.out]
  clear hcv q0 q1 q2 q3 s2
  have hcall := number_i64 a W3
  obtain ⟨Y, hY⟩ : ∃ Y, bs (numL a) = Y := ⟨_, rfl⟩
  have hYs : Y.size ≤ 10 := by rw [← hY, bs_size]; exact num_len a
  have HY := Lib.hid hY
  rw [hY] at hcall
  have hz2 : ¬ 9223372036854775807 < X.size + Y.size := by rw [HXs.out]; omega
  clear hY hYs
  go_wp2_with fail
  refine hcall.mono ?_
  rintro e w' ⟨rfl, c1⟩
  go_wp2_with fail
  go_ret
  exact ⟨by show _ = Ending.returned (.string (bs ([byteOf op] ++ (numL a)))); rw [← bs_app, HX.out, HY.out]; rfl, BB.out.trans (c1.mono BB.out.size)⟩
set_option maxRecDepth 100000 in
set_option maxHeartbeats 4000000 in
theorem ins_s4 (op a b : Int) (la : Option Addr) (lc : Nat) (zs : List Int) (nm ps rs : ByteArray) (w : World) (hl : IntsAt w (.slice la zs.length lc) zs) (ha : (Lit.int .i64 a).wf = true) (hz : zs.length ≤ 1000000000000) :
    Calls Tryz.prog 36 #[.agg #[.int .i64 op, .int .i64 a, .int .i64 b, .slice la zs.length lc], .agg #[.string nm, .int .i64 4, .string ps, .string rs]] w fun e w' => e = .returned (.string (bs (byteOf op :: (numL a)))) ∧ Below w.heap.size w w' := by
  obtain ⟨W2, hW2⟩ : ∃ W2, (w.alloc (.cells #[.int .i64 op, .int .i64 a, .int .i64 b, .slice la zs.length lc] 33)).alloc (.cells #[.string nm, .int .i64 4, .string ps, .string rs] 98) = W2 := ⟨_, rfl⟩
  have z2 : W2.heap.size = w.heap.size + 2 := by rw [← hW2]; simp
  have HI2 : HeldI w op a b (.slice la zs.length lc) W2 := by
    rw [← hW2]
    exact heldI_later ((Below.refl _ _).alloc (Nat.le_refl _) _) ⟨by simp, by simp, by simp, by simp, (Below.refl _ _).alloc (Nat.le_refl _) _⟩
  have s2 : W2.cell? ⟨w.heap.size + 1, 1, none⟩ = some (.int .i64 4) := by
    have h := cell_of_row _ _ 1 _ _ _ (heap_alloc_new (w.alloc (.cells #[.int .i64 op, .int .i64 a, .int .i64 b, .slice la zs.length lc] 33)) (.cells #[.string nm, .int .i64 4, .string ps, .string rs] 98))
    rw [hW2, show (w.alloc (.cells #[.int .i64 op, .int .i64 a, .int .i64 b, .slice la zs.length lc] 33)).heap.size = w.heap.size + 1 by simp] at h
    exact h
  have hcv := one_str W2 op
  rw [z2] at hcv
  obtain ⟨W3, hW3⟩ : ∃ W3, W2.alloc (.cells #[.int .u8 (op % 256)] 5) = W3 := ⟨_, rfl⟩
  have B3 : Below W2.heap.size W2 W3 := by rw [← hW3]; exact (Below.refl _ _).alloc (Nat.le_refl _) _
  have HI3 := heldI_later B3 HI2
  have s3 := cell_later B3 s2
  have HW2 := Lib.hid hW2
  have HW3 := Lib.hid hW3
  have HLV := Lib.hid hl
  obtain ⟨X, hX⟩ : ∃ X, bs [byteOf op] = X := ⟨_, rfl⟩
  have hXs : X.size = 1 := by rw [← hX, bs_size]; rfl
  have HX := Lib.hid hX
  have HXs := Lib.hid hXs
  rw [hX] at hcv
  have HH := Lib.hid HI3
  obtain ⟨q0, q1, q2, q3, q4⟩ := HI2
  obtain ⟨p0, p1, p2, p3, p4⟩ := HI3
  have z3 := B3.size
  have BB := Lib.hid p4
  clear hl hW2 hW3 B3 hX hXs q4 p4
  go_enter Tryz.func36, Tryz.ntmps36
  go_upto_region 1 with fail
  rw [HW2.out]
  go_upto_region 2 with fail
  rw [HW3.out]
  clear hcv q0 q1 q2 q3 s2
  have hcall := number_i64 a W3
  obtain ⟨Y, hY⟩ : ∃ Y, bs (numL a) = Y := ⟨_, rfl⟩
  have hYs : Y.size ≤ 10 := by rw [← hY, bs_size]; exact num_len a
  have HY := Lib.hid hY
  rw [hY] at hcall
  have hz2 : ¬ 9223372036854775807 < X.size + Y.size := by rw [HXs.out]; omega
  clear hY hYs
  go_wp2_with fail
  refine hcall.mono ?_
  rintro e w' ⟨rfl, c1⟩
  go_wp2_with fail
  go_ret
  exact ⟨by show _ = Ending.returned (.string (bs ([byteOf op] ++ (numL a)))); rw [← bs_app, HX.out, HY.out]; rfl, BB.out.trans (c1.mono BB.out.size)⟩
set_option maxRecDepth 100000 in
set_option maxHeartbeats 4000000 in
theorem ins_s3 (op a b : Int) (la : Option Addr) (lc : Nat) (zs : List Int) (nm ps rs : ByteArray) (w : World) (hl : IntsAt w (.slice la zs.length lc) zs) (ha : (Lit.int .i64 a).wf = true) (hz : zs.length ≤ 1000000000000) :
    Calls Tryz.prog 36 #[.agg #[.int .i64 op, .int .i64 a, .int .i64 b, .slice la zs.length lc], .agg #[.string nm, .int .i64 3, .string ps, .string rs]] w fun e w' => e = .returned (.string (bs (byteOf op :: (listL numL zs ++ numL a)))) ∧ Below w.heap.size w w' := by
  obtain ⟨W2, hW2⟩ : ∃ W2, (w.alloc (.cells #[.int .i64 op, .int .i64 a, .int .i64 b, .slice la zs.length lc] 33)).alloc (.cells #[.string nm, .int .i64 3, .string ps, .string rs] 98) = W2 := ⟨_, rfl⟩
  have z2 : W2.heap.size = w.heap.size + 2 := by rw [← hW2]; simp
  have HI2 : HeldI w op a b (.slice la zs.length lc) W2 := by
    rw [← hW2]
    exact heldI_later ((Below.refl _ _).alloc (Nat.le_refl _) _) ⟨by simp, by simp, by simp, by simp, (Below.refl _ _).alloc (Nat.le_refl _) _⟩
  have s2 : W2.cell? ⟨w.heap.size + 1, 1, none⟩ = some (.int .i64 3) := by
    have h := cell_of_row _ _ 1 _ _ _ (heap_alloc_new (w.alloc (.cells #[.int .i64 op, .int .i64 a, .int .i64 b, .slice la zs.length lc] 33)) (.cells #[.string nm, .int .i64 3, .string ps, .string rs] 98))
    rw [hW2, show (w.alloc (.cells #[.int .i64 op, .int .i64 a, .int .i64 b, .slice la zs.length lc] 33)).heap.size = w.heap.size + 1 by simp] at h
    exact h
  have hcv := one_str W2 op
  rw [z2] at hcv
  obtain ⟨W3, hW3⟩ : ∃ W3, W2.alloc (.cells #[.int .u8 (op % 256)] 5) = W3 := ⟨_, rfl⟩
  have B3 : Below W2.heap.size W2 W3 := by rw [← hW3]; exact (Below.refl _ _).alloc (Nat.le_refl _) _
  have HI3 := heldI_later B3 HI2
  have s3 := cell_later B3 s2
  have HW2 := Lib.hid hW2
  have HW3 := Lib.hid hW3
  have HLV := Lib.hid hl
  obtain ⟨X, hX⟩ : ∃ X, bs [byteOf op] = X := ⟨_, rfl⟩
  have hXs : X.size = 1 := by rw [← hX, bs_size]; rfl
  have HX := Lib.hid hX
  have HXs := Lib.hid hXs
  rw [hX] at hcv
  have HH := Lib.hid HI3
  obtain ⟨q0, q1, q2, q3, q4⟩ := HI2
  obtain ⟨p0, p1, p2, p3, p4⟩ := HI3
  have z3 := B3.size
  have BB := Lib.hid p4
  clear hl hW2 hW3 B3 hX hXs q4 p4
  go_enter Tryz.func36, Tryz.ntmps36
  go_upto_region 1 with fail
  rw [HW2.out]
  go_upto_region 2 with fail
  rw [HW3.out]
  clear hcv q0 q1 q2 q3 s2
  have hcall1 : ∀ W, Below w.heap.size w W → Calls Tryz.prog 132 #[.slice la zs.length lc, .func (.func 47) #[] #[]] W fun e w' => e = .returned (.string (bs (listL numL zs))) ∧ Below W.heap.size W w' := fun W hW => enclist_labels _ zs W (intsAt_later HLV.out hW) hz
  have hcall2 : ∀ W, Calls Tryz.prog 131 #[.int .i64 a] W fun e w' => e = .returned (.string (bs (numL a))) ∧ Below W.heap.size W w' := fun W => number_i64 a W
  obtain ⟨Y, hY⟩ : ∃ Y, bs (listL numL zs) = Y := ⟨_, rfl⟩
  obtain ⟨Z, hZ⟩ : ∃ Z, bs (numL a) = Z := ⟨_, rfl⟩
  have hYs : Y.size ≤ 10000000000010 := by rw [← hY, bs_size]; unfold listL; rw [List.length_append]; have h1 := flat_nums_len zs; have h2 := num_len zs.length; omega
  have hZs : Z.size ≤ 10 := by rw [← hZ, bs_size]; exact num_len a
  have HY := Lib.hid hY
  have HZ := Lib.hid hZ
  rw [hY] at hcall1
  rw [hZ] at hcall2
  have K1 := Lib.hid hcall1
  have K2 := Lib.hid hcall2
  have hz2 : ¬ 9223372036854775807 < X.size + Y.size := by rw [HXs.out]; omega
  have hz3 : ¬ 9223372036854775807 < X.size + Y.size + Z.size := by rw [HXs.out]; omega
  clear hY hZ hYs hZs hcall1 hcall2
  go_upto_region 9 with fail
  clear p0 p1 p2 p3
  refine wp_region_held_drew (S := fun W => HeldI w op a b (.slice la zs.length lc) W) (by kernel_rfl) (heldI_later (Below.refl _ _).drew HH.out) (fun hHeld => ?_)
  refine take_yes (i := 0) (d := (some 32)) (v := ?_) rfl (by kernel_rfl) (by kernel_rfl) (by kernel_rfl) rfl (fun _ _ _ h => h) (by rfl) (by assumption) ?_ ?_
  rotate_left
  · (intro w hSw; (try dsimp only at hSw); go_simp; try with_reducible rfl)
  try simp only [Act.put, List.setIfInBounds_toArray, List.set_cons_zero, List.set_cons_succ]
  refine take_yes (i := 1) (d := (some 33)) (v := ?_) rfl (by kernel_rfl) (by kernel_rfl) (by kernel_rfl) rfl (fun _ _ _ h => h) (by rfl) (by assumption) ?_ ?_
  rotate_left
  · (intro w hSw; (try dsimp only at hSw); go_simp; try with_reducible rfl)
  try simp only [Act.put, List.setIfInBounds_toArray, List.set_cons_zero, List.set_cons_succ]
  refine take_yes (i := 2) (d := (some 34)) (v := ?_) rfl (by kernel_rfl) (by kernel_rfl) (by kernel_rfl) rfl (fun _ _ _ h => h) (by rfl) (by assumption) ?_ ?_
  rotate_left
  · (intro w hSw; (try dsimp only at hSw); go_simp; try with_reducible rfl)
  try simp only [Act.put, List.setIfInBounds_toArray, List.set_cons_zero, List.set_cons_succ]
  refine take_yes (i := 5) (d := (some 37)) (v := ?_) rfl (by kernel_rfl) (by kernel_rfl) (by kernel_rfl) rfl (fun _ _ _ h => h) (by rfl) (by assumption) ?_ ?_
  rotate_left
  · (intro w hSw; (try dsimp only at hSw); go_simp; try with_reducible rfl)
  try simp only [Act.put, List.setIfInBounds_toArray, List.set_cons_zero, List.set_cons_succ]
  refine take_yes (i := 6) (d := (some 38)) (v := ?_) rfl (by kernel_rfl) (by kernel_rfl) (by kernel_rfl) rfl (fun _ _ _ h => h) (by rfl) (by assumption) ?_ ?_
  rotate_left
  · (intro w hSw; (try dsimp only at hSw); go_simp; try with_reducible rfl)
  try simp only [Act.put, List.setIfInBounds_toArray, List.set_cons_zero, List.set_cons_succ]
  refine wpAnyH_ready (rs := [3]) (by kernel_rfl) (by simp) ?_
  refine AllReadyH.cons (o := _) rfl (fun K hK => ?_) AllReadyH.nil
  go_simp
  go_at_call 132
  refine (K1.out _ hHeld.2.2.2.2).mono ?_
  rintro en W4 ⟨rfl, c4⟩
  go_wp2_with fail
  refine hK.out _ _ (heldI_later c4 hHeld) (fun hHeld => ?_)
  clear c4
  clear hK K
  try simp only [Act.put, List.setIfInBounds_toArray, List.set_cons_zero, List.set_cons_succ]
  refine take_yes (i := 4) (d := (some 36)) (v := ?_) rfl (by kernel_rfl) (by kernel_rfl) (by kernel_rfl) rfl (fun _ _ _ h => h) (by rfl) (by assumption) ?_ ?_
  rotate_left
  · (intro w hSw; (try dsimp only at hSw); go_simp; try with_reducible rfl)
  try simp only [Act.put, List.setIfInBounds_toArray, List.set_cons_zero, List.set_cons_succ]
  refine wpAnyH_ready (rs := [7]) (by kernel_rfl) (by simp) ?_
  refine AllReadyH.cons (o := _) rfl (fun K hK => ?_) AllReadyH.nil
  go_simp
  go_at_call 131
  refine (K2.out _).mono ?_
  rintro en W5 ⟨rfl, c5⟩
  go_wp2_with fail
  refine hK.out _ _ (heldI_later c5 hHeld) (fun hHeld => ?_)
  clear c5
  clear hK K
  try simp only [Act.put, List.setIfInBounds_toArray, List.set_cons_zero, List.set_cons_succ]
  refine take_yes (i := 8) (d := (some 40)) (v := ?_) rfl (by kernel_rfl) (by kernel_rfl) (by kernel_rfl) rfl (fun _ _ _ h => h) (by rfl) (by assumption) ?_ ?_
  rotate_left
  · (intro w hSw; (try dsimp only at hSw); go_simp; try with_reducible rfl)
  try simp only [Act.put, List.setIfInBounds_toArray, List.set_cons_zero, List.set_cons_succ]
  refine take_yes (i := 9) (d := (some 4)) (v := ?_) rfl (by kernel_rfl) (by kernel_rfl) (by kernel_rfl) rfl (fun _ _ _ h => h) (by rfl) (by assumption) ?_ ?_
  rotate_left
  · (intro w hSw; (try dsimp only at hSw); go_simp; try with_reducible rfl)
  try simp only [Act.put, List.setIfInBounds_toArray, List.set_cons_zero, List.set_cons_succ]
  refine wpAnyH_done (by kernel_rfl) ?_ _
  go_wp2_with fail
  go_ret
  exact ⟨by show _ = Ending.returned (.string (bs ([byteOf op] ++ ((listL numL zs) ++ (numL a))))); rw [← List.append_assoc, ← bs_app, ← bs_app, HX.out, HY.out, HZ.out]; rfl, hHeld.2.2.2.2⟩
set_option maxRecDepth 100000 in
set_option maxHeartbeats 4000000 in
theorem ins_s5 (op a b : Int) (la : Option Addr) (lc : Nat) (zs : List Int) (nm ps rs : ByteArray) (w : World) (hl : IntsAt w (.slice la zs.length lc) zs) (ha : (Lit.int .i64 a).wf = true) (hz : zs.length ≤ 1000000000000) :
    Calls Tryz.prog 36 #[.agg #[.int .i64 op, .int .i64 a, .int .i64 b, .slice la zs.length lc], .agg #[.string nm, .int .i64 5, .string ps, .string rs]] w fun e w' => e = .returned (.string (bs (byteOf op :: (numL a ++ numL b)))) ∧ Below w.heap.size w w' := by
  obtain ⟨W2, hW2⟩ : ∃ W2, (w.alloc (.cells #[.int .i64 op, .int .i64 a, .int .i64 b, .slice la zs.length lc] 33)).alloc (.cells #[.string nm, .int .i64 5, .string ps, .string rs] 98) = W2 := ⟨_, rfl⟩
  have z2 : W2.heap.size = w.heap.size + 2 := by rw [← hW2]; simp
  have HI2 : HeldI w op a b (.slice la zs.length lc) W2 := by
    rw [← hW2]
    exact heldI_later ((Below.refl _ _).alloc (Nat.le_refl _) _) ⟨by simp, by simp, by simp, by simp, (Below.refl _ _).alloc (Nat.le_refl _) _⟩
  have s2 : W2.cell? ⟨w.heap.size + 1, 1, none⟩ = some (.int .i64 5) := by
    have h := cell_of_row _ _ 1 _ _ _ (heap_alloc_new (w.alloc (.cells #[.int .i64 op, .int .i64 a, .int .i64 b, .slice la zs.length lc] 33)) (.cells #[.string nm, .int .i64 5, .string ps, .string rs] 98))
    rw [hW2, show (w.alloc (.cells #[.int .i64 op, .int .i64 a, .int .i64 b, .slice la zs.length lc] 33)).heap.size = w.heap.size + 1 by simp] at h
    exact h
  have hcv := one_str W2 op
  rw [z2] at hcv
  obtain ⟨W3, hW3⟩ : ∃ W3, W2.alloc (.cells #[.int .u8 (op % 256)] 5) = W3 := ⟨_, rfl⟩
  have B3 : Below W2.heap.size W2 W3 := by rw [← hW3]; exact (Below.refl _ _).alloc (Nat.le_refl _) _
  have HI3 := heldI_later B3 HI2
  have s3 := cell_later B3 s2
  have HW2 := Lib.hid hW2
  have HW3 := Lib.hid hW3
  have HLV := Lib.hid hl
  obtain ⟨X, hX⟩ : ∃ X, bs [byteOf op] = X := ⟨_, rfl⟩
  have hXs : X.size = 1 := by rw [← hX, bs_size]; rfl
  have HX := Lib.hid hX
  have HXs := Lib.hid hXs
  rw [hX] at hcv
  have HH := Lib.hid HI3
  obtain ⟨q0, q1, q2, q3, q4⟩ := HI2
  obtain ⟨p0, p1, p2, p3, p4⟩ := HI3
  have z3 := B3.size
  have BB := Lib.hid p4
  clear hl hW2 hW3 B3 hX hXs q4 p4
  go_enter Tryz.func36, Tryz.ntmps36
  go_upto_region 1 with fail
  rw [HW2.out]
  go_upto_region 2 with fail
  rw [HW3.out]
  clear hcv q0 q1 q2 q3 s2
  have hcall1 : ∀ W, Below w.heap.size w W → Calls Tryz.prog 131 #[.int .i64 a] W fun e w' => e = .returned (.string (bs (numL a))) ∧ Below W.heap.size W w' := fun W _ => number_i64 a W
  have hcall2 : ∀ W, Calls Tryz.prog 131 #[.int .i64 b] W fun e w' => e = .returned (.string (bs (numL b))) ∧ Below W.heap.size W w' := fun W => number_i64 b W
  obtain ⟨Y, hY⟩ : ∃ Y, bs (numL a) = Y := ⟨_, rfl⟩
  obtain ⟨Z, hZ⟩ : ∃ Z, bs (numL b) = Z := ⟨_, rfl⟩
  have hYs : Y.size ≤ 10 := by rw [← hY, bs_size]; exact num_len a
  have hZs : Z.size ≤ 10 := by rw [← hZ, bs_size]; exact num_len b
  have HY := Lib.hid hY
  have HZ := Lib.hid hZ
  rw [hY] at hcall1
  rw [hZ] at hcall2
  have K1 := Lib.hid hcall1
  have K2 := Lib.hid hcall2
  have hz2 : ¬ 9223372036854775807 < X.size + Y.size := by rw [HXs.out]; omega
  have hz3 : ¬ 9223372036854775807 < X.size + Y.size + Z.size := by rw [HXs.out]; omega
  clear hY hZ hYs hZs hcall1 hcall2
  go_upto_region 11 with fail
  clear p0 p1 p2 p3
  refine wp_region_held_drew (S := fun W => HeldI w op a b (.slice la zs.length lc) W) (by kernel_rfl) (heldI_later (Below.refl _ _).drew HH.out) (fun hHeld => ?_)
  refine take_yes (i := 0) (d := (some 43)) (v := ?_) rfl (by kernel_rfl) (by kernel_rfl) (by kernel_rfl) rfl (fun _ _ _ h => h) (by rfl) (by assumption) ?_ ?_
  rotate_left
  · (intro w hSw; (try dsimp only at hSw); go_simp; try with_reducible rfl)
  try simp only [Act.put, List.setIfInBounds_toArray, List.set_cons_zero, List.set_cons_succ]
  refine take_yes (i := 1) (d := (some 44)) (v := ?_) rfl (by kernel_rfl) (by kernel_rfl) (by kernel_rfl) rfl (fun _ _ _ h => h) (by rfl) (by assumption) ?_ ?_
  rotate_left
  · (intro w hSw; (try dsimp only at hSw); go_simp; try with_reducible rfl)
  try simp only [Act.put, List.setIfInBounds_toArray, List.set_cons_zero, List.set_cons_succ]
  refine take_yes (i := 2) (d := (some 45)) (v := ?_) rfl (by kernel_rfl) (by kernel_rfl) (by kernel_rfl) rfl (fun _ _ _ h => h) (by rfl) (by assumption) ?_ ?_
  rotate_left
  · (intro w hSw; (try dsimp only at hSw); go_simp; try with_reducible rfl)
  try simp only [Act.put, List.setIfInBounds_toArray, List.set_cons_zero, List.set_cons_succ]
  refine take_yes (i := 5) (d := (some 48)) (v := ?_) rfl (by kernel_rfl) (by kernel_rfl) (by kernel_rfl) rfl (fun _ _ _ h => h) (by rfl) (by assumption) ?_ ?_
  rotate_left
  · (intro w hSw; (try dsimp only at hSw); go_simp; try with_reducible rfl)
  try simp only [Act.put, List.setIfInBounds_toArray, List.set_cons_zero, List.set_cons_succ]
  refine take_yes (i := 6) (d := (some 49)) (v := ?_) rfl (by kernel_rfl) (by kernel_rfl) (by kernel_rfl) rfl (fun _ _ _ h => h) (by rfl) (by assumption) ?_ ?_
  rotate_left
  · (intro w hSw; (try dsimp only at hSw); go_simp; try with_reducible rfl)
  try simp only [Act.put, List.setIfInBounds_toArray, List.set_cons_zero, List.set_cons_succ]
  refine wpAnyH_ready (rs := [3]) (by kernel_rfl) (by simp) ?_
  refine AllReadyH.cons (o := _) rfl (fun K hK => ?_) AllReadyH.nil
  go_simp
  go_at_call 131
  refine (K1.out _ hHeld.2.2.2.2).mono ?_
  rintro en W4 ⟨rfl, c4⟩
  go_wp2_with fail
  refine hK.out _ _ (heldI_later c4 hHeld) (fun hHeld => ?_)
  clear c4
  clear hK K
  try simp only [Act.put, List.setIfInBounds_toArray, List.set_cons_zero, List.set_cons_succ]
  refine take_yes (i := 4) (d := (some 47)) (v := ?_) rfl (by kernel_rfl) (by kernel_rfl) (by kernel_rfl) rfl (fun _ _ _ h => h) (by rfl) (by assumption) ?_ ?_
  rotate_left
  · (intro w hSw; (try dsimp only at hSw); go_simp; try with_reducible rfl)
  try simp only [Act.put, List.setIfInBounds_toArray, List.set_cons_zero, List.set_cons_succ]
  refine wpAnyH_ready (rs := [7]) (by kernel_rfl) (by simp) ?_
  refine AllReadyH.cons (o := _) rfl (fun K hK => ?_) AllReadyH.nil
  go_simp
  go_at_call 131
  refine (K2.out _).mono ?_
  rintro en W5 ⟨rfl, c5⟩
  go_wp2_with fail
  refine hK.out _ _ (heldI_later c5 hHeld) (fun hHeld => ?_)
  clear c5
  clear hK K
  try simp only [Act.put, List.setIfInBounds_toArray, List.set_cons_zero, List.set_cons_succ]
  refine take_yes (i := 8) (d := (some 51)) (v := ?_) rfl (by kernel_rfl) (by kernel_rfl) (by kernel_rfl) rfl (fun _ _ _ h => h) (by rfl) (by assumption) ?_ ?_
  rotate_left
  · (intro w hSw; (try dsimp only at hSw); go_simp; try with_reducible rfl)
  try simp only [Act.put, List.setIfInBounds_toArray, List.set_cons_zero, List.set_cons_succ]
  refine take_yes (i := 9) (d := (some 4)) (v := ?_) rfl (by kernel_rfl) (by kernel_rfl) (by kernel_rfl) rfl (fun _ _ _ h => h) (by rfl) (by assumption) ?_ ?_
  rotate_left
  · (intro w hSw; (try dsimp only at hSw); go_simp; try with_reducible rfl)
  try simp only [Act.put, List.setIfInBounds_toArray, List.set_cons_zero, List.set_cons_succ]
  refine wpAnyH_done (by kernel_rfl) ?_ _
  go_wp2_with fail
  go_ret
  exact ⟨by show _ = Ending.returned (.string (bs ([byteOf op] ++ ((numL a) ++ (numL b))))); rw [← List.append_assoc, ← bs_app, ← bs_app, HX.out, HY.out, HZ.out]; rfl, hHeld.2.2.2.2⟩
set_option maxRecDepth 100000 in
set_option maxHeartbeats 4000000 in
theorem ins_s6 (op a b : Int) (la : Option Addr) (lc : Nat) (zs : List Int) (nm ps rs : ByteArray) (w : World) (hl : IntsAt w (.slice la zs.length lc) zs) (ha : (Lit.int .i64 a).wf = true) (hz : zs.length ≤ 1000000000000) :
    Calls Tryz.prog 36 #[.agg #[.int .i64 op, .int .i64 a, .int .i64 b, .slice la zs.length lc], .agg #[.string nm, .int .i64 6, .string ps, .string rs]] w fun e w' => e = .returned (.string (bs (byteOf op :: ([0])))) ∧ Below w.heap.size w w' := by
  obtain ⟨W2, hW2⟩ : ∃ W2, (w.alloc (.cells #[.int .i64 op, .int .i64 a, .int .i64 b, .slice la zs.length lc] 33)).alloc (.cells #[.string nm, .int .i64 6, .string ps, .string rs] 98) = W2 := ⟨_, rfl⟩
  have z2 : W2.heap.size = w.heap.size + 2 := by rw [← hW2]; simp
  have HI2 : HeldI w op a b (.slice la zs.length lc) W2 := by
    rw [← hW2]
    exact heldI_later ((Below.refl _ _).alloc (Nat.le_refl _) _) ⟨by simp, by simp, by simp, by simp, (Below.refl _ _).alloc (Nat.le_refl _) _⟩
  have s2 : W2.cell? ⟨w.heap.size + 1, 1, none⟩ = some (.int .i64 6) := by
    have h := cell_of_row _ _ 1 _ _ _ (heap_alloc_new (w.alloc (.cells #[.int .i64 op, .int .i64 a, .int .i64 b, .slice la zs.length lc] 33)) (.cells #[.string nm, .int .i64 6, .string ps, .string rs] 98))
    rw [hW2, show (w.alloc (.cells #[.int .i64 op, .int .i64 a, .int .i64 b, .slice la zs.length lc] 33)).heap.size = w.heap.size + 1 by simp] at h
    exact h
  have hcv := one_str W2 op
  rw [z2] at hcv
  obtain ⟨W3, hW3⟩ : ∃ W3, W2.alloc (.cells #[.int .u8 (op % 256)] 5) = W3 := ⟨_, rfl⟩
  have B3 : Below W2.heap.size W2 W3 := by rw [← hW3]; exact (Below.refl _ _).alloc (Nat.le_refl _) _
  have HI3 := heldI_later B3 HI2
  have s3 := cell_later B3 s2
  have HW2 := Lib.hid hW2
  have HW3 := Lib.hid hW3
  have HLV := Lib.hid hl
  obtain ⟨X, hX⟩ : ∃ X, bs [byteOf op] = X := ⟨_, rfl⟩
  have hXs : X.size = 1 := by rw [← hX, bs_size]; rfl
  have HX := Lib.hid hX
  have HXs := Lib.hid hXs
  rw [hX] at hcv
  have HH := Lib.hid HI3
  obtain ⟨q0, q1, q2, q3, q4⟩ := HI2
  obtain ⟨p0, p1, p2, p3, p4⟩ := HI3
  have z3 := B3.size
  have BB := Lib.hid p4
  clear hl hW2 hW3 B3 hX hXs q4 p4
  go_enter Tryz.func36, Tryz.ntmps36
  go_upto_region 1 with fail
  rw [HW2.out]
  go_upto_region 2 with fail
  rw [HW3.out]
  clear hcv q0 q1 q2 q3 s2
  have hz2 : ¬ 9223372036854775807 < X.size + 1 := by rw [HXs.out]; decide
  go_wp2_with fail
  go_ret
  exact ⟨by show _ = Ending.returned (.string (bs ([byteOf op] ++ [0]))); rw [← bs_app, HX.out]; rfl, BB.out⟩
set_option maxRecDepth 100000 in
set_option maxHeartbeats 4000000 in
theorem ins_s7 (op a b : Int) (la : Option Addr) (lc : Nat) (zs : List Int) (nm ps rs : ByteArray) (w : World) (hl : IntsAt w (.slice la zs.length lc) zs) (ha : (Lit.int .i64 a).wf = true) (hz : zs.length ≤ 1000000000000) :
    Calls Tryz.prog 36 #[.agg #[.int .i64 op, .int .i64 a, .int .i64 b, .slice la zs.length lc], .agg #[.string nm, .int .i64 7, .string ps, .string rs]] w fun e w' => e = .returned (.string (bs (byteOf op :: (sgnL a)))) ∧ Below w.heap.size w w' := by
  obtain ⟨W2, hW2⟩ : ∃ W2, (w.alloc (.cells #[.int .i64 op, .int .i64 a, .int .i64 b, .slice la zs.length lc] 33)).alloc (.cells #[.string nm, .int .i64 7, .string ps, .string rs] 98) = W2 := ⟨_, rfl⟩
  have z2 : W2.heap.size = w.heap.size + 2 := by rw [← hW2]; simp
  have HI2 : HeldI w op a b (.slice la zs.length lc) W2 := by
    rw [← hW2]
    exact heldI_later ((Below.refl _ _).alloc (Nat.le_refl _) _) ⟨by simp, by simp, by simp, by simp, (Below.refl _ _).alloc (Nat.le_refl _) _⟩
  have s2 : W2.cell? ⟨w.heap.size + 1, 1, none⟩ = some (.int .i64 7) := by
    have h := cell_of_row _ _ 1 _ _ _ (heap_alloc_new (w.alloc (.cells #[.int .i64 op, .int .i64 a, .int .i64 b, .slice la zs.length lc] 33)) (.cells #[.string nm, .int .i64 7, .string ps, .string rs] 98))
    rw [hW2, show (w.alloc (.cells #[.int .i64 op, .int .i64 a, .int .i64 b, .slice la zs.length lc] 33)).heap.size = w.heap.size + 1 by simp] at h
    exact h
  have hcv := one_str W2 op
  rw [z2] at hcv
  obtain ⟨W3, hW3⟩ : ∃ W3, W2.alloc (.cells #[.int .u8 (op % 256)] 5) = W3 := ⟨_, rfl⟩
  have B3 : Below W2.heap.size W2 W3 := by rw [← hW3]; exact (Below.refl _ _).alloc (Nat.le_refl _) _
  have HI3 := heldI_later B3 HI2
  have s3 := cell_later B3 s2
  have HW2 := Lib.hid hW2
  have HW3 := Lib.hid hW3
  have HLV := Lib.hid hl
  obtain ⟨X, hX⟩ : ∃ X, bs [byteOf op] = X := ⟨_, rfl⟩
  have hXs : X.size = 1 := by rw [← hX, bs_size]; rfl
  have HX := Lib.hid hX
  have HXs := Lib.hid hXs
  rw [hX] at hcv
  have HH := Lib.hid HI3
  obtain ⟨q0, q1, q2, q3, q4⟩ := HI2
  obtain ⟨p0, p1, p2, p3, p4⟩ := HI3
  have z3 := B3.size
  have BB := Lib.hid p4
  clear hl hW2 hW3 B3 hX hXs q4 p4
  go_enter Tryz.func36, Tryz.ntmps36
  go_upto_region 1 with fail
  rw [HW2.out]
  go_upto_region 2 with fail
  rw [HW3.out]
  clear hcv q0 q1 q2 q3 s2
  have hcall := putS_i64 a W3 ha
  obtain ⟨Y, hY⟩ : ∃ Y, bs (sgnL a) = Y := ⟨_, rfl⟩
  have hYs : Y.size ≤ 10 := by rw [← hY, bs_size]; exact sgn_len ha
  have HY := Lib.hid hY
  rw [hY] at hcall
  have hz2 : ¬ 9223372036854775807 < X.size + Y.size := by rw [HXs.out]; omega
  clear hY hYs
  go_wp2_with fail
  refine hcall.mono ?_
  rintro e w' ⟨rfl, c1⟩
  go_wp2_with fail
  go_ret
  exact ⟨by show _ = Ending.returned (.string (bs ([byteOf op] ++ (sgnL a)))); rw [← bs_app, HX.out, HY.out]; rfl, BB.out.trans (c1.mono BB.out.size)⟩
end Go.Proofs.YtmfdabkmijbffaaGreatDoor.Enc

/- EncCl: What package enc's constant answers, and the closures that write one thing of a list. No condition beyond what each theorem names. -/
namespace Go.Proofs.YtmfdabkmijbffaaGreatDoor.Enc
open Go.RowKit Go.Maps Go.Proofs.YtmfdabkmijbffaaGreatDoor.Op Go.Proofs.YtmfdabkmijbffaaGreatDoor.Mod Go.Proofs.YtmfdabkmijbffaaGreatDoor.Leb Go.Proofs.YtmfdabkmijbffaaGreatDoor.Bytes
set_option linter.unusedVariables false
theorem one_at {W : World} {g : Nat} {n : Int} (h : W.cell? ⟨g, 0, none⟩ = some (.int .u8 n)) (h0 : 0 ≤ n) (h1 : n < 256) : (convert 45 9 (.slice (some ⟨g, 0, none⟩) 1 1)).run Tryz.prog W = .ok (.string (bs [byteOf n])) W :=
  str_row rfl fun j x hx => by
    match j, hx with
    | 0, hx =>
      simp at hx
      subst hx
      rw [wrap_byte, show n % 256 = n by omega]
      exact h
theorem byteOf_self (k : UInt8) : byteOf (k.toNat : Int) = k := by
  unfold byteOf
  rw [show ((k.toNat : Int) % 256).toNat = k.toNat by have := k.toNat_lt; omega]
  simp
theorem two_at {W : World} {g : Nat} {n : Int} {m : UInt8} (h : W.cell? ⟨g, 0, none⟩ = some (.int .u8 (n % 256))) (h2 : W.cell? ⟨g, 1, none⟩ = some (.int .u8 (m.toNat : Int))) : (convert 45 9 (.slice (some ⟨g, 0, none⟩) 2 2)).run Tryz.prog W = .ok (.string (bs [byteOf n, m])) W :=
  str_row rfl fun j x hx => by
    match j, hx with
    | 0, hx =>
      simp at hx
      subst hx
      rw [wrap_byte]
      exact h
    | 1, hx =>
      simp at hx
      subst hx
      exact h2
theorem byteOf_mod (n : Int) : byteOf (n % 256) = byteOf n := by unfold byteOf; rw [Int.emod_emod]
theorem str_len (s : ByteArray) : (strL s).length ≤ 10 + s.size := by
  unfold strL textL
  rw [List.length_append]
  have := num_len (s.data.toList.length : Nat)
  have e : s.data.toList.length = s.size := rfl
  omega
theorem const_len {k n : Int} (h : (Lit.int .i64 n).wf = true) : (constL k n).length ≤ 12 := by
  unfold constL
  simp only [List.length_append, List.length_cons, List.length_nil]
  have := sgn_len h
  omega
set_option maxRecDepth 100000 in
set_option maxHeartbeats 4000000 in
theorem const_l (n : Int) (w : World) (hn : (Lit.int .i64 n).wf = true) :
    Calls Tryz.prog 54 #[.int .i64 126, .int .i64 n] w fun e w' => e = .returned (.string (bs (constL 126 n))) ∧ Below w.heap.size w w' := by
  have HE := Lib.hid (show bs [byteOf 66] ++ bs (sgnL n) ++ bs [byteOf 11] = bs (constL 126 n) by
    rw [bs_app, bs_app]
    rfl)
  have hXs : (bs [byteOf 66]).size = 1 := rfl
  have hYs : (bs (sgnL n)).size ≤ 10 := by rw [bs_size]; exact sgn_len hn
  have hZs : (bs [byteOf 11]).size = 1 := rfl
  have hz2 : ¬ 9223372036854775807 < (bs [byteOf 66]).size + (bs (sgnL n)).size := by omega
  have hz3 : ¬ 9223372036854775807 < (bs [byteOf 66]).size + (bs (sgnL n)).size + (bs [byteOf 11]).size := by omega
  clear hXs hYs hZs
  go_enter Tryz.func54, Tryz.ntmps54
  go_upto_region 4 with fail
  refine wp_region_held_drew (S := fun W => Below w.heap.size w W) (by kernel_rfl) (Below.refl _ _).drew (fun hHeld => ?_)
  obtain ⟨V0, hV0⟩ : ∃ V, w.drew = V := ⟨_, rfl⟩
  rw [hV0] at hHeld ⊢
  clear hV0
  refine take_yes (i := 0) (d := (some 10)) (v := ?_) rfl (by kernel_rfl) (by kernel_rfl) (by kernel_rfl) rfl (fun _ _ _ h => h) (by rfl) (by assumption) ?_ ?_
  rotate_left
  · (intro w hSw; (try dsimp only at hSw); go_simp; try with_reducible rfl)
  try simp only [Act.put, List.setIfInBounds_toArray, List.set_cons_zero, List.set_cons_succ]
  refine take_yes (i := 3) (d := (some 13)) (v := ?_) rfl (by kernel_rfl) (by kernel_rfl) (by kernel_rfl) rfl (fun _ _ _ h => h) (by rfl) (by assumption) ?_ ?_
  rotate_left
  · (intro w hSw; (try dsimp only at hSw); go_simp; try with_reducible rfl)
  try simp only [Act.put, List.setIfInBounds_toArray, List.set_cons_zero, List.set_cons_succ]
  refine wpAnyH_ready (rs := [1, 4, 6]) (by kernel_rfl) (by simp) ?_
  refine (AllReadyH.cons (o := _) rfl (fun K hK => ?_) (AllReadyH.cons (o := _) rfl (fun K hK => ?_) (AllReadyH.cons (o := _) rfl (fun K hK => ?_) AllReadyH.nil)))
  · skip
    go_simp
    have hB9 : Below V0.heap.size V0 (V0.alloc (.cells #[.int .u8 (66)] 5)) := (Below.refl _ _).alloc (Nat.le_refl _) _
    have hc9 : (V0.alloc (.cells #[.int .u8 (66)] 5)).cell? ⟨V0.heap.size, 0, none⟩ = some (.int .u8 (66)) := by simp
    refine hK.out _ _ ((hHeld).trans ((hB9).mono (hHeld).size)) (fun hHeld => ?_)
    generalize hg9 : V0.heap.size = g1 at *
    generalize hV9 : V0.alloc (.cells #[.int .u8 (66)] 5) = V1 at *
    refine held_mono (S' := fun W => (Below w.heap.size w W) ∧ W.cell? ⟨g1, 0, none⟩ = some (.int .u8 (66))) (fun _ h => h.1) ?_
    replace hHeld : (fun W => (Below w.heap.size w W) ∧ W.cell? ⟨g1, 0, none⟩ = some (.int .u8 (66))) V1 := ⟨hHeld, hc9⟩
    clear hB9 hc9 hg9 hV9
    clear hK K
    try simp only [Act.put, List.setIfInBounds_toArray, List.set_cons_zero, List.set_cons_succ]
    refine take_yes (i := 2) (d := (some 12)) (v := ?_) rfl (by kernel_rfl) (by kernel_rfl) (by kernel_rfl) rfl (fun _ _ _ h => h) (by rfl) (by assumption) ?_ ?_
    rotate_left
    · (intro w hSw; (try dsimp only at hSw); have hq := one_at hSw.2 (by decide) (by decide); go_simp; try with_reducible rfl)
    try simp only [Act.put, List.setIfInBounds_toArray, List.set_cons_zero, List.set_cons_succ]
    refine wpAnyH_ready (rs := [4, 6]) (by kernel_rfl) (by simp) ?_
    refine (AllReadyH.cons (o := _) rfl (fun K hK => ?_) (AllReadyH.cons (o := _) rfl (fun K hK => ?_) AllReadyH.nil))
    · skip
      go_simp
      go_at_call 133
      refine (putS_i64 n V1 hn).mono ?_
      rintro en V2 ⟨rfl, c9⟩
      go_wp2_with fail
      refine hK.out _ _ (⟨(hHeld.1).trans ((c9).mono (hHeld.1).size), cell_later c9 hHeld.2⟩) (fun hHeld => ?_)
      clear c9
      clear hK K
      try simp only [Act.put, List.setIfInBounds_toArray, List.set_cons_zero, List.set_cons_succ]
      refine take_yes (i := 5) (d := (some 15)) (v := ?_) rfl (by kernel_rfl) (by kernel_rfl) (by kernel_rfl) rfl (fun _ _ _ h => h) (by rfl) (by assumption) ?_ ?_
      rotate_left
      · (intro w hSw; (try dsimp only at hSw); go_simp; try with_reducible rfl)
      try simp only [Act.put, List.setIfInBounds_toArray, List.set_cons_zero, List.set_cons_succ]
      refine wpAnyH_ready (rs := [6]) (by kernel_rfl) (by simp) ?_
      refine (AllReadyH.cons (o := _) rfl (fun K hK => ?_) AllReadyH.nil)
      go_simp
      have hB9 : Below V2.heap.size V2 (V2.alloc (.cells #[.int .u8 (11)] 5)) := (Below.refl _ _).alloc (Nat.le_refl _) _
      have hc9 : (V2.alloc (.cells #[.int .u8 (11)] 5)).cell? ⟨V2.heap.size, 0, none⟩ = some (.int .u8 (11)) := by simp
      refine hK.out _ _ (⟨(hHeld.1).trans ((hB9).mono (hHeld.1).size), cell_later hB9 hHeld.2⟩) (fun hHeld => ?_)
      generalize hg9 : V2.heap.size = g3 at *
      generalize hV9 : V2.alloc (.cells #[.int .u8 (11)] 5) = V3 at *
      refine held_mono (S' := fun W => ((Below w.heap.size w W) ∧ W.cell? ⟨g1, 0, none⟩ = some (.int .u8 (66))) ∧ W.cell? ⟨g3, 0, none⟩ = some (.int .u8 (11))) (fun _ h => h.1) ?_
      replace hHeld : (fun W => ((Below w.heap.size w W) ∧ W.cell? ⟨g1, 0, none⟩ = some (.int .u8 (66))) ∧ W.cell? ⟨g3, 0, none⟩ = some (.int .u8 (11))) V3 := ⟨hHeld, hc9⟩
      clear hB9 hc9 hg9 hV9
      clear hK K
      try simp only [Act.put, List.setIfInBounds_toArray, List.set_cons_zero, List.set_cons_succ]
      refine take_yes (i := 7) (d := (some 17)) (v := ?_) rfl (by kernel_rfl) (by kernel_rfl) (by kernel_rfl) rfl (fun _ _ _ h => h) (by rfl) (by assumption) ?_ ?_
      rotate_left
      · (intro w hSw; (try dsimp only at hSw); have hq := one_at hSw.2 (by decide) (by decide); go_simp; try with_reducible rfl)
      try simp only [Act.put, List.setIfInBounds_toArray, List.set_cons_zero, List.set_cons_succ]
      refine take_yes (i := 8) (d := (some 18)) (v := ?_) rfl (by kernel_rfl) (by kernel_rfl) (by kernel_rfl) rfl (fun _ _ _ h => h) (by rfl) (by assumption) ?_ ?_
      rotate_left
      · (intro w hSw; (try dsimp only at hSw); go_simp; try with_reducible rfl)
      try simp only [Act.put, List.setIfInBounds_toArray, List.set_cons_zero, List.set_cons_succ]
      refine take_yes (i := 9) (d := (some 4)) (v := ?_) rfl (by kernel_rfl) (by kernel_rfl) (by kernel_rfl) rfl (fun _ _ _ h => h) (by rfl) (by assumption) ?_ ?_
      rotate_left
      · (intro w hSw; (try dsimp only at hSw); go_simp; try with_reducible rfl)
      try simp only [Act.put, List.setIfInBounds_toArray, List.set_cons_zero, List.set_cons_succ]
      refine wpAnyH_done (by kernel_rfl) ?_ _
      go_wp2_with fail
      go_ret
      exact ⟨by rw [← HE.out]; rfl, hHeld.1.1⟩
    · skip
      go_simp
      have hB9 : Below V1.heap.size V1 (V1.alloc (.cells #[.int .u8 (11)] 5)) := (Below.refl _ _).alloc (Nat.le_refl _) _
      have hc9 : (V1.alloc (.cells #[.int .u8 (11)] 5)).cell? ⟨V1.heap.size, 0, none⟩ = some (.int .u8 (11)) := by simp
      refine hK.out _ _ (⟨(hHeld.1).trans ((hB9).mono (hHeld.1).size), cell_later hB9 hHeld.2⟩) (fun hHeld => ?_)
      generalize hg9 : V1.heap.size = g4 at *
      generalize hV9 : V1.alloc (.cells #[.int .u8 (11)] 5) = V4 at *
      refine held_mono (S' := fun W => ((Below w.heap.size w W) ∧ W.cell? ⟨g1, 0, none⟩ = some (.int .u8 (66))) ∧ W.cell? ⟨g4, 0, none⟩ = some (.int .u8 (11))) (fun _ h => h.1) ?_
      replace hHeld : (fun W => ((Below w.heap.size w W) ∧ W.cell? ⟨g1, 0, none⟩ = some (.int .u8 (66))) ∧ W.cell? ⟨g4, 0, none⟩ = some (.int .u8 (11))) V4 := ⟨hHeld, hc9⟩
      clear hB9 hc9 hg9 hV9
      clear hK K
      try simp only [Act.put, List.setIfInBounds_toArray, List.set_cons_zero, List.set_cons_succ]
      refine take_yes (i := 7) (d := (some 17)) (v := ?_) rfl (by kernel_rfl) (by kernel_rfl) (by kernel_rfl) rfl (fun _ _ _ h => h) (by rfl) (by assumption) ?_ ?_
      rotate_left
      · (intro w hSw; (try dsimp only at hSw); have hq := one_at hSw.2 (by decide) (by decide); go_simp; try with_reducible rfl)
      try simp only [Act.put, List.setIfInBounds_toArray, List.set_cons_zero, List.set_cons_succ]
      refine wpAnyH_ready (rs := [4]) (by kernel_rfl) (by simp) ?_
      refine (AllReadyH.cons (o := _) rfl (fun K hK => ?_) AllReadyH.nil)
      go_simp
      go_at_call 133
      refine (putS_i64 n V4 hn).mono ?_
      rintro en V5 ⟨rfl, c9⟩
      go_wp2_with fail
      refine hK.out _ _ (⟨⟨(hHeld.1.1).trans ((c9).mono (hHeld.1.1).size), cell_later c9 hHeld.1.2⟩, cell_later c9 hHeld.2⟩) (fun hHeld => ?_)
      clear c9
      clear hK K
      try simp only [Act.put, List.setIfInBounds_toArray, List.set_cons_zero, List.set_cons_succ]
      refine take_yes (i := 5) (d := (some 15)) (v := ?_) rfl (by kernel_rfl) (by kernel_rfl) (by kernel_rfl) rfl (fun _ _ _ h => h) (by rfl) (by assumption) ?_ ?_
      rotate_left
      · (intro w hSw; (try dsimp only at hSw); go_simp; try with_reducible rfl)
      try simp only [Act.put, List.setIfInBounds_toArray, List.set_cons_zero, List.set_cons_succ]
      refine take_yes (i := 8) (d := (some 18)) (v := ?_) rfl (by kernel_rfl) (by kernel_rfl) (by kernel_rfl) rfl (fun _ _ _ h => h) (by rfl) (by assumption) ?_ ?_
      rotate_left
      · (intro w hSw; (try dsimp only at hSw); go_simp; try with_reducible rfl)
      try simp only [Act.put, List.setIfInBounds_toArray, List.set_cons_zero, List.set_cons_succ]
      refine take_yes (i := 9) (d := (some 4)) (v := ?_) rfl (by kernel_rfl) (by kernel_rfl) (by kernel_rfl) rfl (fun _ _ _ h => h) (by rfl) (by assumption) ?_ ?_
      rotate_left
      · (intro w hSw; (try dsimp only at hSw); go_simp; try with_reducible rfl)
      try simp only [Act.put, List.setIfInBounds_toArray, List.set_cons_zero, List.set_cons_succ]
      refine wpAnyH_done (by kernel_rfl) ?_ _
      go_wp2_with fail
      go_ret
      exact ⟨by rw [← HE.out]; rfl, hHeld.1.1⟩
  · skip
    go_simp
    go_at_call 133
    refine (putS_i64 n V0 hn).mono ?_
    rintro en V6 ⟨rfl, c9⟩
    go_wp2_with fail
    refine hK.out _ _ ((hHeld).trans ((c9).mono (hHeld).size)) (fun hHeld => ?_)
    clear c9
    clear hK K
    try simp only [Act.put, List.setIfInBounds_toArray, List.set_cons_zero, List.set_cons_succ]
    refine wpAnyH_ready (rs := [1, 6]) (by kernel_rfl) (by simp) ?_
    refine (AllReadyH.cons (o := _) rfl (fun K hK => ?_) (AllReadyH.cons (o := _) rfl (fun K hK => ?_) AllReadyH.nil))
    · skip
      go_simp
      have hB9 : Below V6.heap.size V6 (V6.alloc (.cells #[.int .u8 (66)] 5)) := (Below.refl _ _).alloc (Nat.le_refl _) _
      have hc9 : (V6.alloc (.cells #[.int .u8 (66)] 5)).cell? ⟨V6.heap.size, 0, none⟩ = some (.int .u8 (66)) := by simp
      refine hK.out _ _ ((hHeld).trans ((hB9).mono (hHeld).size)) (fun hHeld => ?_)
      generalize hg9 : V6.heap.size = g7 at *
      generalize hV9 : V6.alloc (.cells #[.int .u8 (66)] 5) = V7 at *
      refine held_mono (S' := fun W => (Below w.heap.size w W) ∧ W.cell? ⟨g7, 0, none⟩ = some (.int .u8 (66))) (fun _ h => h.1) ?_
      replace hHeld : (fun W => (Below w.heap.size w W) ∧ W.cell? ⟨g7, 0, none⟩ = some (.int .u8 (66))) V7 := ⟨hHeld, hc9⟩
      clear hB9 hc9 hg9 hV9
      clear hK K
      try simp only [Act.put, List.setIfInBounds_toArray, List.set_cons_zero, List.set_cons_succ]
      refine take_yes (i := 2) (d := (some 12)) (v := ?_) rfl (by kernel_rfl) (by kernel_rfl) (by kernel_rfl) rfl (fun _ _ _ h => h) (by rfl) (by assumption) ?_ ?_
      rotate_left
      · (intro w hSw; (try dsimp only at hSw); have hq := one_at hSw.2 (by decide) (by decide); go_simp; try with_reducible rfl)
      try simp only [Act.put, List.setIfInBounds_toArray, List.set_cons_zero, List.set_cons_succ]
      refine take_yes (i := 5) (d := (some 15)) (v := ?_) rfl (by kernel_rfl) (by kernel_rfl) (by kernel_rfl) rfl (fun _ _ _ h => h) (by rfl) (by assumption) ?_ ?_
      rotate_left
      · (intro w hSw; (try dsimp only at hSw); go_simp; try with_reducible rfl)
      try simp only [Act.put, List.setIfInBounds_toArray, List.set_cons_zero, List.set_cons_succ]
      refine wpAnyH_ready (rs := [6]) (by kernel_rfl) (by simp) ?_
      refine (AllReadyH.cons (o := _) rfl (fun K hK => ?_) AllReadyH.nil)
      go_simp
      have hB9 : Below V7.heap.size V7 (V7.alloc (.cells #[.int .u8 (11)] 5)) := (Below.refl _ _).alloc (Nat.le_refl _) _
      have hc9 : (V7.alloc (.cells #[.int .u8 (11)] 5)).cell? ⟨V7.heap.size, 0, none⟩ = some (.int .u8 (11)) := by simp
      refine hK.out _ _ (⟨(hHeld.1).trans ((hB9).mono (hHeld.1).size), cell_later hB9 hHeld.2⟩) (fun hHeld => ?_)
      generalize hg9 : V7.heap.size = g8 at *
      generalize hV9 : V7.alloc (.cells #[.int .u8 (11)] 5) = V8 at *
      refine held_mono (S' := fun W => ((Below w.heap.size w W) ∧ W.cell? ⟨g7, 0, none⟩ = some (.int .u8 (66))) ∧ W.cell? ⟨g8, 0, none⟩ = some (.int .u8 (11))) (fun _ h => h.1) ?_
      replace hHeld : (fun W => ((Below w.heap.size w W) ∧ W.cell? ⟨g7, 0, none⟩ = some (.int .u8 (66))) ∧ W.cell? ⟨g8, 0, none⟩ = some (.int .u8 (11))) V8 := ⟨hHeld, hc9⟩
      clear hB9 hc9 hg9 hV9
      clear hK K
      try simp only [Act.put, List.setIfInBounds_toArray, List.set_cons_zero, List.set_cons_succ]
      refine take_yes (i := 7) (d := (some 17)) (v := ?_) rfl (by kernel_rfl) (by kernel_rfl) (by kernel_rfl) rfl (fun _ _ _ h => h) (by rfl) (by assumption) ?_ ?_
      rotate_left
      · (intro w hSw; (try dsimp only at hSw); have hq := one_at hSw.2 (by decide) (by decide); go_simp; try with_reducible rfl)
      try simp only [Act.put, List.setIfInBounds_toArray, List.set_cons_zero, List.set_cons_succ]
      refine take_yes (i := 8) (d := (some 18)) (v := ?_) rfl (by kernel_rfl) (by kernel_rfl) (by kernel_rfl) rfl (fun _ _ _ h => h) (by rfl) (by assumption) ?_ ?_
      rotate_left
      · (intro w hSw; (try dsimp only at hSw); go_simp; try with_reducible rfl)
      try simp only [Act.put, List.setIfInBounds_toArray, List.set_cons_zero, List.set_cons_succ]
      refine take_yes (i := 9) (d := (some 4)) (v := ?_) rfl (by kernel_rfl) (by kernel_rfl) (by kernel_rfl) rfl (fun _ _ _ h => h) (by rfl) (by assumption) ?_ ?_
      rotate_left
      · (intro w hSw; (try dsimp only at hSw); go_simp; try with_reducible rfl)
      try simp only [Act.put, List.setIfInBounds_toArray, List.set_cons_zero, List.set_cons_succ]
      refine wpAnyH_done (by kernel_rfl) ?_ _
      go_wp2_with fail
      go_ret
      exact ⟨by rw [← HE.out]; rfl, hHeld.1.1⟩
    · skip
      go_simp
      have hB9 : Below V6.heap.size V6 (V6.alloc (.cells #[.int .u8 (11)] 5)) := (Below.refl _ _).alloc (Nat.le_refl _) _
      have hc9 : (V6.alloc (.cells #[.int .u8 (11)] 5)).cell? ⟨V6.heap.size, 0, none⟩ = some (.int .u8 (11)) := by simp
      refine hK.out _ _ ((hHeld).trans ((hB9).mono (hHeld).size)) (fun hHeld => ?_)
      generalize hg9 : V6.heap.size = g9 at *
      generalize hV9 : V6.alloc (.cells #[.int .u8 (11)] 5) = V9 at *
      refine held_mono (S' := fun W => (Below w.heap.size w W) ∧ W.cell? ⟨g9, 0, none⟩ = some (.int .u8 (11))) (fun _ h => h.1) ?_
      replace hHeld : (fun W => (Below w.heap.size w W) ∧ W.cell? ⟨g9, 0, none⟩ = some (.int .u8 (11))) V9 := ⟨hHeld, hc9⟩
      clear hB9 hc9 hg9 hV9
      clear hK K
      try simp only [Act.put, List.setIfInBounds_toArray, List.set_cons_zero, List.set_cons_succ]
      refine take_yes (i := 7) (d := (some 17)) (v := ?_) rfl (by kernel_rfl) (by kernel_rfl) (by kernel_rfl) rfl (fun _ _ _ h => h) (by rfl) (by assumption) ?_ ?_
      rotate_left
      · (intro w hSw; (try dsimp only at hSw); have hq := one_at hSw.2 (by decide) (by decide); go_simp; try with_reducible rfl)
      try simp only [Act.put, List.setIfInBounds_toArray, List.set_cons_zero, List.set_cons_succ]
      refine wpAnyH_ready (rs := [1]) (by kernel_rfl) (by simp) ?_
      refine (AllReadyH.cons (o := _) rfl (fun K hK => ?_) AllReadyH.nil)
      go_simp
      have hB9 : Below V9.heap.size V9 (V9.alloc (.cells #[.int .u8 (66)] 5)) := (Below.refl _ _).alloc (Nat.le_refl _) _
      have hc9 : (V9.alloc (.cells #[.int .u8 (66)] 5)).cell? ⟨V9.heap.size, 0, none⟩ = some (.int .u8 (66)) := by simp
      refine hK.out _ _ (⟨(hHeld.1).trans ((hB9).mono (hHeld.1).size), cell_later hB9 hHeld.2⟩) (fun hHeld => ?_)
      generalize hg9 : V9.heap.size = g10 at *
      generalize hV9 : V9.alloc (.cells #[.int .u8 (66)] 5) = V10 at *
      refine held_mono (S' := fun W => ((Below w.heap.size w W) ∧ W.cell? ⟨g9, 0, none⟩ = some (.int .u8 (11))) ∧ W.cell? ⟨g10, 0, none⟩ = some (.int .u8 (66))) (fun _ h => h.1) ?_
      replace hHeld : (fun W => ((Below w.heap.size w W) ∧ W.cell? ⟨g9, 0, none⟩ = some (.int .u8 (11))) ∧ W.cell? ⟨g10, 0, none⟩ = some (.int .u8 (66))) V10 := ⟨hHeld, hc9⟩
      clear hB9 hc9 hg9 hV9
      clear hK K
      try simp only [Act.put, List.setIfInBounds_toArray, List.set_cons_zero, List.set_cons_succ]
      refine take_yes (i := 2) (d := (some 12)) (v := ?_) rfl (by kernel_rfl) (by kernel_rfl) (by kernel_rfl) rfl (fun _ _ _ h => h) (by rfl) (by assumption) ?_ ?_
      rotate_left
      · (intro w hSw; (try dsimp only at hSw); have hq := one_at hSw.2 (by decide) (by decide); go_simp; try with_reducible rfl)
      try simp only [Act.put, List.setIfInBounds_toArray, List.set_cons_zero, List.set_cons_succ]
      refine take_yes (i := 5) (d := (some 15)) (v := ?_) rfl (by kernel_rfl) (by kernel_rfl) (by kernel_rfl) rfl (fun _ _ _ h => h) (by rfl) (by assumption) ?_ ?_
      rotate_left
      · (intro w hSw; (try dsimp only at hSw); go_simp; try with_reducible rfl)
      try simp only [Act.put, List.setIfInBounds_toArray, List.set_cons_zero, List.set_cons_succ]
      refine take_yes (i := 8) (d := (some 18)) (v := ?_) rfl (by kernel_rfl) (by kernel_rfl) (by kernel_rfl) rfl (fun _ _ _ h => h) (by rfl) (by assumption) ?_ ?_
      rotate_left
      · (intro w hSw; (try dsimp only at hSw); go_simp; try with_reducible rfl)
      try simp only [Act.put, List.setIfInBounds_toArray, List.set_cons_zero, List.set_cons_succ]
      refine take_yes (i := 9) (d := (some 4)) (v := ?_) rfl (by kernel_rfl) (by kernel_rfl) (by kernel_rfl) rfl (fun _ _ _ h => h) (by rfl) (by assumption) ?_ ?_
      rotate_left
      · (intro w hSw; (try dsimp only at hSw); go_simp; try with_reducible rfl)
      try simp only [Act.put, List.setIfInBounds_toArray, List.set_cons_zero, List.set_cons_succ]
      refine wpAnyH_done (by kernel_rfl) ?_ _
      go_wp2_with fail
      go_ret
      exact ⟨by rw [← HE.out]; rfl, hHeld.1.1⟩
  · skip
    go_simp
    have hB9 : Below V0.heap.size V0 (V0.alloc (.cells #[.int .u8 (11)] 5)) := (Below.refl _ _).alloc (Nat.le_refl _) _
    have hc9 : (V0.alloc (.cells #[.int .u8 (11)] 5)).cell? ⟨V0.heap.size, 0, none⟩ = some (.int .u8 (11)) := by simp
    refine hK.out _ _ ((hHeld).trans ((hB9).mono (hHeld).size)) (fun hHeld => ?_)
    generalize hg9 : V0.heap.size = g11 at *
    generalize hV9 : V0.alloc (.cells #[.int .u8 (11)] 5) = V11 at *
    refine held_mono (S' := fun W => (Below w.heap.size w W) ∧ W.cell? ⟨g11, 0, none⟩ = some (.int .u8 (11))) (fun _ h => h.1) ?_
    replace hHeld : (fun W => (Below w.heap.size w W) ∧ W.cell? ⟨g11, 0, none⟩ = some (.int .u8 (11))) V11 := ⟨hHeld, hc9⟩
    clear hB9 hc9 hg9 hV9
    clear hK K
    try simp only [Act.put, List.setIfInBounds_toArray, List.set_cons_zero, List.set_cons_succ]
    refine take_yes (i := 7) (d := (some 17)) (v := ?_) rfl (by kernel_rfl) (by kernel_rfl) (by kernel_rfl) rfl (fun _ _ _ h => h) (by rfl) (by assumption) ?_ ?_
    rotate_left
    · (intro w hSw; (try dsimp only at hSw); have hq := one_at hSw.2 (by decide) (by decide); go_simp; try with_reducible rfl)
    try simp only [Act.put, List.setIfInBounds_toArray, List.set_cons_zero, List.set_cons_succ]
    refine wpAnyH_ready (rs := [1, 4]) (by kernel_rfl) (by simp) ?_
    refine (AllReadyH.cons (o := _) rfl (fun K hK => ?_) (AllReadyH.cons (o := _) rfl (fun K hK => ?_) AllReadyH.nil))
    · skip
      go_simp
      have hB9 : Below V11.heap.size V11 (V11.alloc (.cells #[.int .u8 (66)] 5)) := (Below.refl _ _).alloc (Nat.le_refl _) _
      have hc9 : (V11.alloc (.cells #[.int .u8 (66)] 5)).cell? ⟨V11.heap.size, 0, none⟩ = some (.int .u8 (66)) := by simp
      refine hK.out _ _ (⟨(hHeld.1).trans ((hB9).mono (hHeld.1).size), cell_later hB9 hHeld.2⟩) (fun hHeld => ?_)
      generalize hg9 : V11.heap.size = g12 at *
      generalize hV9 : V11.alloc (.cells #[.int .u8 (66)] 5) = V12 at *
      refine held_mono (S' := fun W => ((Below w.heap.size w W) ∧ W.cell? ⟨g11, 0, none⟩ = some (.int .u8 (11))) ∧ W.cell? ⟨g12, 0, none⟩ = some (.int .u8 (66))) (fun _ h => h.1) ?_
      replace hHeld : (fun W => ((Below w.heap.size w W) ∧ W.cell? ⟨g11, 0, none⟩ = some (.int .u8 (11))) ∧ W.cell? ⟨g12, 0, none⟩ = some (.int .u8 (66))) V12 := ⟨hHeld, hc9⟩
      clear hB9 hc9 hg9 hV9
      clear hK K
      try simp only [Act.put, List.setIfInBounds_toArray, List.set_cons_zero, List.set_cons_succ]
      refine take_yes (i := 2) (d := (some 12)) (v := ?_) rfl (by kernel_rfl) (by kernel_rfl) (by kernel_rfl) rfl (fun _ _ _ h => h) (by rfl) (by assumption) ?_ ?_
      rotate_left
      · (intro w hSw; (try dsimp only at hSw); have hq := one_at hSw.2 (by decide) (by decide); go_simp; try with_reducible rfl)
      try simp only [Act.put, List.setIfInBounds_toArray, List.set_cons_zero, List.set_cons_succ]
      refine wpAnyH_ready (rs := [4]) (by kernel_rfl) (by simp) ?_
      refine (AllReadyH.cons (o := _) rfl (fun K hK => ?_) AllReadyH.nil)
      go_simp
      go_at_call 133
      refine (putS_i64 n V12 hn).mono ?_
      rintro en V13 ⟨rfl, c9⟩
      go_wp2_with fail
      refine hK.out _ _ (⟨⟨(hHeld.1.1).trans ((c9).mono (hHeld.1.1).size), cell_later c9 hHeld.1.2⟩, cell_later c9 hHeld.2⟩) (fun hHeld => ?_)
      clear c9
      clear hK K
      try simp only [Act.put, List.setIfInBounds_toArray, List.set_cons_zero, List.set_cons_succ]
      refine take_yes (i := 5) (d := (some 15)) (v := ?_) rfl (by kernel_rfl) (by kernel_rfl) (by kernel_rfl) rfl (fun _ _ _ h => h) (by rfl) (by assumption) ?_ ?_
      rotate_left
      · (intro w hSw; (try dsimp only at hSw); go_simp; try with_reducible rfl)
      try simp only [Act.put, List.setIfInBounds_toArray, List.set_cons_zero, List.set_cons_succ]
      refine take_yes (i := 8) (d := (some 18)) (v := ?_) rfl (by kernel_rfl) (by kernel_rfl) (by kernel_rfl) rfl (fun _ _ _ h => h) (by rfl) (by assumption) ?_ ?_
      rotate_left
      · (intro w hSw; (try dsimp only at hSw); go_simp; try with_reducible rfl)
      try simp only [Act.put, List.setIfInBounds_toArray, List.set_cons_zero, List.set_cons_succ]
      refine take_yes (i := 9) (d := (some 4)) (v := ?_) rfl (by kernel_rfl) (by kernel_rfl) (by kernel_rfl) rfl (fun _ _ _ h => h) (by rfl) (by assumption) ?_ ?_
      rotate_left
      · (intro w hSw; (try dsimp only at hSw); go_simp; try with_reducible rfl)
      try simp only [Act.put, List.setIfInBounds_toArray, List.set_cons_zero, List.set_cons_succ]
      refine wpAnyH_done (by kernel_rfl) ?_ _
      go_wp2_with fail
      go_ret
      exact ⟨by rw [← HE.out]; rfl, hHeld.1.1⟩
    · skip
      go_simp
      go_at_call 133
      refine (putS_i64 n V11 hn).mono ?_
      rintro en V14 ⟨rfl, c9⟩
      go_wp2_with fail
      refine hK.out _ _ (⟨(hHeld.1).trans ((c9).mono (hHeld.1).size), cell_later c9 hHeld.2⟩) (fun hHeld => ?_)
      clear c9
      clear hK K
      try simp only [Act.put, List.setIfInBounds_toArray, List.set_cons_zero, List.set_cons_succ]
      refine wpAnyH_ready (rs := [1]) (by kernel_rfl) (by simp) ?_
      refine (AllReadyH.cons (o := _) rfl (fun K hK => ?_) AllReadyH.nil)
      go_simp
      have hB9 : Below V14.heap.size V14 (V14.alloc (.cells #[.int .u8 (66)] 5)) := (Below.refl _ _).alloc (Nat.le_refl _) _
      have hc9 : (V14.alloc (.cells #[.int .u8 (66)] 5)).cell? ⟨V14.heap.size, 0, none⟩ = some (.int .u8 (66)) := by simp
      refine hK.out _ _ (⟨(hHeld.1).trans ((hB9).mono (hHeld.1).size), cell_later hB9 hHeld.2⟩) (fun hHeld => ?_)
      generalize hg9 : V14.heap.size = g15 at *
      generalize hV9 : V14.alloc (.cells #[.int .u8 (66)] 5) = V15 at *
      refine held_mono (S' := fun W => ((Below w.heap.size w W) ∧ W.cell? ⟨g11, 0, none⟩ = some (.int .u8 (11))) ∧ W.cell? ⟨g15, 0, none⟩ = some (.int .u8 (66))) (fun _ h => h.1) ?_
      replace hHeld : (fun W => ((Below w.heap.size w W) ∧ W.cell? ⟨g11, 0, none⟩ = some (.int .u8 (11))) ∧ W.cell? ⟨g15, 0, none⟩ = some (.int .u8 (66))) V15 := ⟨hHeld, hc9⟩
      clear hB9 hc9 hg9 hV9
      clear hK K
      try simp only [Act.put, List.setIfInBounds_toArray, List.set_cons_zero, List.set_cons_succ]
      refine take_yes (i := 2) (d := (some 12)) (v := ?_) rfl (by kernel_rfl) (by kernel_rfl) (by kernel_rfl) rfl (fun _ _ _ h => h) (by rfl) (by assumption) ?_ ?_
      rotate_left
      · (intro w hSw; (try dsimp only at hSw); have hq := one_at hSw.2 (by decide) (by decide); go_simp; try with_reducible rfl)
      try simp only [Act.put, List.setIfInBounds_toArray, List.set_cons_zero, List.set_cons_succ]
      refine take_yes (i := 5) (d := (some 15)) (v := ?_) rfl (by kernel_rfl) (by kernel_rfl) (by kernel_rfl) rfl (fun _ _ _ h => h) (by rfl) (by assumption) ?_ ?_
      rotate_left
      · (intro w hSw; (try dsimp only at hSw); go_simp; try with_reducible rfl)
      try simp only [Act.put, List.setIfInBounds_toArray, List.set_cons_zero, List.set_cons_succ]
      refine take_yes (i := 8) (d := (some 18)) (v := ?_) rfl (by kernel_rfl) (by kernel_rfl) (by kernel_rfl) rfl (fun _ _ _ h => h) (by rfl) (by assumption) ?_ ?_
      rotate_left
      · (intro w hSw; (try dsimp only at hSw); go_simp; try with_reducible rfl)
      try simp only [Act.put, List.setIfInBounds_toArray, List.set_cons_zero, List.set_cons_succ]
      refine take_yes (i := 9) (d := (some 4)) (v := ?_) rfl (by kernel_rfl) (by kernel_rfl) (by kernel_rfl) rfl (fun _ _ _ h => h) (by rfl) (by assumption) ?_ ?_
      rotate_left
      · (intro w hSw; (try dsimp only at hSw); go_simp; try with_reducible rfl)
      try simp only [Act.put, List.setIfInBounds_toArray, List.set_cons_zero, List.set_cons_succ]
      refine wpAnyH_done (by kernel_rfl) ?_ _
      go_wp2_with fail
      go_ret
      exact ⟨by rw [← HE.out]; rfl, hHeld.1.1⟩
set_option maxRecDepth 100000 in
set_option maxHeartbeats 4000000 in
theorem const_w (k : Int) (hk : k ≠ 126) (n : Int) (w : World) (hn : (Lit.int .i64 n).wf = true) :
    Calls Tryz.prog 54 #[.int .i64 k, .int .i64 n] w fun e w' => e = .returned (.string (bs (constL k n))) ∧ Below w.heap.size w w' := by
  have HE := Lib.hid (show bs [byteOf 65] ++ bs (sgnL n) ++ bs [byteOf 11] = bs (constL k n) by
    rw [bs_app, bs_app]
    unfold constL; rw [if_neg hk]; rfl)
  have hXs : (bs [byteOf 65]).size = 1 := rfl
  have hYs : (bs (sgnL n)).size ≤ 10 := by rw [bs_size]; exact sgn_len hn
  have hZs : (bs [byteOf 11]).size = 1 := rfl
  have hz2 : ¬ 9223372036854775807 < (bs [byteOf 65]).size + (bs (sgnL n)).size := by omega
  have hz3 : ¬ 9223372036854775807 < (bs [byteOf 65]).size + (bs (sgnL n)).size + (bs [byteOf 11]).size := by omega
  have hkb : (k == 126) = false := by rw [beq_eq_false_iff_ne]; exact hk
  clear hXs hYs hZs hk
  go_enter Tryz.func54, Tryz.ntmps54
  go_upto_region 4 with fail
  refine wp_region_held_drew (S := fun W => Below w.heap.size w W) (by kernel_rfl) (Below.refl _ _).drew (fun hHeld => ?_)
  obtain ⟨V0, hV0⟩ : ∃ V, w.drew = V := ⟨_, rfl⟩
  rw [hV0] at hHeld ⊢
  clear hV0
  refine take_yes (i := 0) (d := (some 10)) (v := ?_) rfl (by kernel_rfl) (by kernel_rfl) (by kernel_rfl) rfl (fun _ _ _ h => h) (by rfl) (by assumption) ?_ ?_
  rotate_left
  · (intro w hSw; (try dsimp only at hSw); go_simp; try with_reducible rfl)
  try simp only [Act.put, List.setIfInBounds_toArray, List.set_cons_zero, List.set_cons_succ]
  refine take_yes (i := 3) (d := (some 13)) (v := ?_) rfl (by kernel_rfl) (by kernel_rfl) (by kernel_rfl) rfl (fun _ _ _ h => h) (by rfl) (by assumption) ?_ ?_
  rotate_left
  · (intro w hSw; (try dsimp only at hSw); go_simp; try with_reducible rfl)
  try simp only [Act.put, List.setIfInBounds_toArray, List.set_cons_zero, List.set_cons_succ]
  refine wpAnyH_ready (rs := [1, 4, 6]) (by kernel_rfl) (by simp) ?_
  refine (AllReadyH.cons (o := _) rfl (fun K hK => ?_) (AllReadyH.cons (o := _) rfl (fun K hK => ?_) (AllReadyH.cons (o := _) rfl (fun K hK => ?_) AllReadyH.nil)))
  · skip
    go_simp
    have hB9 : Below V0.heap.size V0 (V0.alloc (.cells #[.int .u8 (65)] 5)) := (Below.refl _ _).alloc (Nat.le_refl _) _
    have hc9 : (V0.alloc (.cells #[.int .u8 (65)] 5)).cell? ⟨V0.heap.size, 0, none⟩ = some (.int .u8 (65)) := by simp
    refine hK.out _ _ ((hHeld).trans ((hB9).mono (hHeld).size)) (fun hHeld => ?_)
    generalize hg9 : V0.heap.size = g1 at *
    generalize hV9 : V0.alloc (.cells #[.int .u8 (65)] 5) = V1 at *
    refine held_mono (S' := fun W => (Below w.heap.size w W) ∧ W.cell? ⟨g1, 0, none⟩ = some (.int .u8 (65))) (fun _ h => h.1) ?_
    replace hHeld : (fun W => (Below w.heap.size w W) ∧ W.cell? ⟨g1, 0, none⟩ = some (.int .u8 (65))) V1 := ⟨hHeld, hc9⟩
    clear hB9 hc9 hg9 hV9
    clear hK K
    try simp only [Act.put, List.setIfInBounds_toArray, List.set_cons_zero, List.set_cons_succ]
    refine take_yes (i := 2) (d := (some 12)) (v := ?_) rfl (by kernel_rfl) (by kernel_rfl) (by kernel_rfl) rfl (fun _ _ _ h => h) (by rfl) (by assumption) ?_ ?_
    rotate_left
    · (intro w hSw; (try dsimp only at hSw); have hq := one_at hSw.2 (by decide) (by decide); go_simp; try with_reducible rfl)
    try simp only [Act.put, List.setIfInBounds_toArray, List.set_cons_zero, List.set_cons_succ]
    refine wpAnyH_ready (rs := [4, 6]) (by kernel_rfl) (by simp) ?_
    refine (AllReadyH.cons (o := _) rfl (fun K hK => ?_) (AllReadyH.cons (o := _) rfl (fun K hK => ?_) AllReadyH.nil))
    · skip
      go_simp
      go_at_call 133
      refine (putS_i64 n V1 hn).mono ?_
      rintro en V2 ⟨rfl, c9⟩
      go_wp2_with fail
      refine hK.out _ _ (⟨(hHeld.1).trans ((c9).mono (hHeld.1).size), cell_later c9 hHeld.2⟩) (fun hHeld => ?_)
      clear c9
      clear hK K
      try simp only [Act.put, List.setIfInBounds_toArray, List.set_cons_zero, List.set_cons_succ]
      refine take_yes (i := 5) (d := (some 15)) (v := ?_) rfl (by kernel_rfl) (by kernel_rfl) (by kernel_rfl) rfl (fun _ _ _ h => h) (by rfl) (by assumption) ?_ ?_
      rotate_left
      · (intro w hSw; (try dsimp only at hSw); go_simp; try with_reducible rfl)
      try simp only [Act.put, List.setIfInBounds_toArray, List.set_cons_zero, List.set_cons_succ]
      refine wpAnyH_ready (rs := [6]) (by kernel_rfl) (by simp) ?_
      refine (AllReadyH.cons (o := _) rfl (fun K hK => ?_) AllReadyH.nil)
      go_simp
      have hB9 : Below V2.heap.size V2 (V2.alloc (.cells #[.int .u8 (11)] 5)) := (Below.refl _ _).alloc (Nat.le_refl _) _
      have hc9 : (V2.alloc (.cells #[.int .u8 (11)] 5)).cell? ⟨V2.heap.size, 0, none⟩ = some (.int .u8 (11)) := by simp
      refine hK.out _ _ (⟨(hHeld.1).trans ((hB9).mono (hHeld.1).size), cell_later hB9 hHeld.2⟩) (fun hHeld => ?_)
      generalize hg9 : V2.heap.size = g3 at *
      generalize hV9 : V2.alloc (.cells #[.int .u8 (11)] 5) = V3 at *
      refine held_mono (S' := fun W => ((Below w.heap.size w W) ∧ W.cell? ⟨g1, 0, none⟩ = some (.int .u8 (65))) ∧ W.cell? ⟨g3, 0, none⟩ = some (.int .u8 (11))) (fun _ h => h.1) ?_
      replace hHeld : (fun W => ((Below w.heap.size w W) ∧ W.cell? ⟨g1, 0, none⟩ = some (.int .u8 (65))) ∧ W.cell? ⟨g3, 0, none⟩ = some (.int .u8 (11))) V3 := ⟨hHeld, hc9⟩
      clear hB9 hc9 hg9 hV9
      clear hK K
      try simp only [Act.put, List.setIfInBounds_toArray, List.set_cons_zero, List.set_cons_succ]
      refine take_yes (i := 7) (d := (some 17)) (v := ?_) rfl (by kernel_rfl) (by kernel_rfl) (by kernel_rfl) rfl (fun _ _ _ h => h) (by rfl) (by assumption) ?_ ?_
      rotate_left
      · (intro w hSw; (try dsimp only at hSw); have hq := one_at hSw.2 (by decide) (by decide); go_simp; try with_reducible rfl)
      try simp only [Act.put, List.setIfInBounds_toArray, List.set_cons_zero, List.set_cons_succ]
      refine take_yes (i := 8) (d := (some 18)) (v := ?_) rfl (by kernel_rfl) (by kernel_rfl) (by kernel_rfl) rfl (fun _ _ _ h => h) (by rfl) (by assumption) ?_ ?_
      rotate_left
      · (intro w hSw; (try dsimp only at hSw); go_simp; try with_reducible rfl)
      try simp only [Act.put, List.setIfInBounds_toArray, List.set_cons_zero, List.set_cons_succ]
      refine take_yes (i := 9) (d := (some 4)) (v := ?_) rfl (by kernel_rfl) (by kernel_rfl) (by kernel_rfl) rfl (fun _ _ _ h => h) (by rfl) (by assumption) ?_ ?_
      rotate_left
      · (intro w hSw; (try dsimp only at hSw); go_simp; try with_reducible rfl)
      try simp only [Act.put, List.setIfInBounds_toArray, List.set_cons_zero, List.set_cons_succ]
      refine wpAnyH_done (by kernel_rfl) ?_ _
      go_wp2_with fail
      go_ret
      exact ⟨by rw [← HE.out]; rfl, hHeld.1.1⟩
    · skip
      go_simp
      have hB9 : Below V1.heap.size V1 (V1.alloc (.cells #[.int .u8 (11)] 5)) := (Below.refl _ _).alloc (Nat.le_refl _) _
      have hc9 : (V1.alloc (.cells #[.int .u8 (11)] 5)).cell? ⟨V1.heap.size, 0, none⟩ = some (.int .u8 (11)) := by simp
      refine hK.out _ _ (⟨(hHeld.1).trans ((hB9).mono (hHeld.1).size), cell_later hB9 hHeld.2⟩) (fun hHeld => ?_)
      generalize hg9 : V1.heap.size = g4 at *
      generalize hV9 : V1.alloc (.cells #[.int .u8 (11)] 5) = V4 at *
      refine held_mono (S' := fun W => ((Below w.heap.size w W) ∧ W.cell? ⟨g1, 0, none⟩ = some (.int .u8 (65))) ∧ W.cell? ⟨g4, 0, none⟩ = some (.int .u8 (11))) (fun _ h => h.1) ?_
      replace hHeld : (fun W => ((Below w.heap.size w W) ∧ W.cell? ⟨g1, 0, none⟩ = some (.int .u8 (65))) ∧ W.cell? ⟨g4, 0, none⟩ = some (.int .u8 (11))) V4 := ⟨hHeld, hc9⟩
      clear hB9 hc9 hg9 hV9
      clear hK K
      try simp only [Act.put, List.setIfInBounds_toArray, List.set_cons_zero, List.set_cons_succ]
      refine take_yes (i := 7) (d := (some 17)) (v := ?_) rfl (by kernel_rfl) (by kernel_rfl) (by kernel_rfl) rfl (fun _ _ _ h => h) (by rfl) (by assumption) ?_ ?_
      rotate_left
      · (intro w hSw; (try dsimp only at hSw); have hq := one_at hSw.2 (by decide) (by decide); go_simp; try with_reducible rfl)
      try simp only [Act.put, List.setIfInBounds_toArray, List.set_cons_zero, List.set_cons_succ]
      refine wpAnyH_ready (rs := [4]) (by kernel_rfl) (by simp) ?_
      refine (AllReadyH.cons (o := _) rfl (fun K hK => ?_) AllReadyH.nil)
      go_simp
      go_at_call 133
      refine (putS_i64 n V4 hn).mono ?_
      rintro en V5 ⟨rfl, c9⟩
      go_wp2_with fail
      refine hK.out _ _ (⟨⟨(hHeld.1.1).trans ((c9).mono (hHeld.1.1).size), cell_later c9 hHeld.1.2⟩, cell_later c9 hHeld.2⟩) (fun hHeld => ?_)
      clear c9
      clear hK K
      try simp only [Act.put, List.setIfInBounds_toArray, List.set_cons_zero, List.set_cons_succ]
      refine take_yes (i := 5) (d := (some 15)) (v := ?_) rfl (by kernel_rfl) (by kernel_rfl) (by kernel_rfl) rfl (fun _ _ _ h => h) (by rfl) (by assumption) ?_ ?_
      rotate_left
      · (intro w hSw; (try dsimp only at hSw); go_simp; try with_reducible rfl)
      try simp only [Act.put, List.setIfInBounds_toArray, List.set_cons_zero, List.set_cons_succ]
      refine take_yes (i := 8) (d := (some 18)) (v := ?_) rfl (by kernel_rfl) (by kernel_rfl) (by kernel_rfl) rfl (fun _ _ _ h => h) (by rfl) (by assumption) ?_ ?_
      rotate_left
      · (intro w hSw; (try dsimp only at hSw); go_simp; try with_reducible rfl)
      try simp only [Act.put, List.setIfInBounds_toArray, List.set_cons_zero, List.set_cons_succ]
      refine take_yes (i := 9) (d := (some 4)) (v := ?_) rfl (by kernel_rfl) (by kernel_rfl) (by kernel_rfl) rfl (fun _ _ _ h => h) (by rfl) (by assumption) ?_ ?_
      rotate_left
      · (intro w hSw; (try dsimp only at hSw); go_simp; try with_reducible rfl)
      try simp only [Act.put, List.setIfInBounds_toArray, List.set_cons_zero, List.set_cons_succ]
      refine wpAnyH_done (by kernel_rfl) ?_ _
      go_wp2_with fail
      go_ret
      exact ⟨by rw [← HE.out]; rfl, hHeld.1.1⟩
  · skip
    go_simp
    go_at_call 133
    refine (putS_i64 n V0 hn).mono ?_
    rintro en V6 ⟨rfl, c9⟩
    go_wp2_with fail
    refine hK.out _ _ ((hHeld).trans ((c9).mono (hHeld).size)) (fun hHeld => ?_)
    clear c9
    clear hK K
    try simp only [Act.put, List.setIfInBounds_toArray, List.set_cons_zero, List.set_cons_succ]
    refine wpAnyH_ready (rs := [1, 6]) (by kernel_rfl) (by simp) ?_
    refine (AllReadyH.cons (o := _) rfl (fun K hK => ?_) (AllReadyH.cons (o := _) rfl (fun K hK => ?_) AllReadyH.nil))
    · skip
      go_simp
      have hB9 : Below V6.heap.size V6 (V6.alloc (.cells #[.int .u8 (65)] 5)) := (Below.refl _ _).alloc (Nat.le_refl _) _
      have hc9 : (V6.alloc (.cells #[.int .u8 (65)] 5)).cell? ⟨V6.heap.size, 0, none⟩ = some (.int .u8 (65)) := by simp
      refine hK.out _ _ ((hHeld).trans ((hB9).mono (hHeld).size)) (fun hHeld => ?_)
      generalize hg9 : V6.heap.size = g7 at *
      generalize hV9 : V6.alloc (.cells #[.int .u8 (65)] 5) = V7 at *
      refine held_mono (S' := fun W => (Below w.heap.size w W) ∧ W.cell? ⟨g7, 0, none⟩ = some (.int .u8 (65))) (fun _ h => h.1) ?_
      replace hHeld : (fun W => (Below w.heap.size w W) ∧ W.cell? ⟨g7, 0, none⟩ = some (.int .u8 (65))) V7 := ⟨hHeld, hc9⟩
      clear hB9 hc9 hg9 hV9
      clear hK K
      try simp only [Act.put, List.setIfInBounds_toArray, List.set_cons_zero, List.set_cons_succ]
      refine take_yes (i := 2) (d := (some 12)) (v := ?_) rfl (by kernel_rfl) (by kernel_rfl) (by kernel_rfl) rfl (fun _ _ _ h => h) (by rfl) (by assumption) ?_ ?_
      rotate_left
      · (intro w hSw; (try dsimp only at hSw); have hq := one_at hSw.2 (by decide) (by decide); go_simp; try with_reducible rfl)
      try simp only [Act.put, List.setIfInBounds_toArray, List.set_cons_zero, List.set_cons_succ]
      refine take_yes (i := 5) (d := (some 15)) (v := ?_) rfl (by kernel_rfl) (by kernel_rfl) (by kernel_rfl) rfl (fun _ _ _ h => h) (by rfl) (by assumption) ?_ ?_
      rotate_left
      · (intro w hSw; (try dsimp only at hSw); go_simp; try with_reducible rfl)
      try simp only [Act.put, List.setIfInBounds_toArray, List.set_cons_zero, List.set_cons_succ]
      refine wpAnyH_ready (rs := [6]) (by kernel_rfl) (by simp) ?_
      refine (AllReadyH.cons (o := _) rfl (fun K hK => ?_) AllReadyH.nil)
      go_simp
      have hB9 : Below V7.heap.size V7 (V7.alloc (.cells #[.int .u8 (11)] 5)) := (Below.refl _ _).alloc (Nat.le_refl _) _
      have hc9 : (V7.alloc (.cells #[.int .u8 (11)] 5)).cell? ⟨V7.heap.size, 0, none⟩ = some (.int .u8 (11)) := by simp
      refine hK.out _ _ (⟨(hHeld.1).trans ((hB9).mono (hHeld.1).size), cell_later hB9 hHeld.2⟩) (fun hHeld => ?_)
      generalize hg9 : V7.heap.size = g8 at *
      generalize hV9 : V7.alloc (.cells #[.int .u8 (11)] 5) = V8 at *
      refine held_mono (S' := fun W => ((Below w.heap.size w W) ∧ W.cell? ⟨g7, 0, none⟩ = some (.int .u8 (65))) ∧ W.cell? ⟨g8, 0, none⟩ = some (.int .u8 (11))) (fun _ h => h.1) ?_
      replace hHeld : (fun W => ((Below w.heap.size w W) ∧ W.cell? ⟨g7, 0, none⟩ = some (.int .u8 (65))) ∧ W.cell? ⟨g8, 0, none⟩ = some (.int .u8 (11))) V8 := ⟨hHeld, hc9⟩
      clear hB9 hc9 hg9 hV9
      clear hK K
      try simp only [Act.put, List.setIfInBounds_toArray, List.set_cons_zero, List.set_cons_succ]
      refine take_yes (i := 7) (d := (some 17)) (v := ?_) rfl (by kernel_rfl) (by kernel_rfl) (by kernel_rfl) rfl (fun _ _ _ h => h) (by rfl) (by assumption) ?_ ?_
      rotate_left
      · (intro w hSw; (try dsimp only at hSw); have hq := one_at hSw.2 (by decide) (by decide); go_simp; try with_reducible rfl)
      try simp only [Act.put, List.setIfInBounds_toArray, List.set_cons_zero, List.set_cons_succ]
      refine take_yes (i := 8) (d := (some 18)) (v := ?_) rfl (by kernel_rfl) (by kernel_rfl) (by kernel_rfl) rfl (fun _ _ _ h => h) (by rfl) (by assumption) ?_ ?_
      rotate_left
      · (intro w hSw; (try dsimp only at hSw); go_simp; try with_reducible rfl)
      try simp only [Act.put, List.setIfInBounds_toArray, List.set_cons_zero, List.set_cons_succ]
      refine take_yes (i := 9) (d := (some 4)) (v := ?_) rfl (by kernel_rfl) (by kernel_rfl) (by kernel_rfl) rfl (fun _ _ _ h => h) (by rfl) (by assumption) ?_ ?_
      rotate_left
      · (intro w hSw; (try dsimp only at hSw); go_simp; try with_reducible rfl)
      try simp only [Act.put, List.setIfInBounds_toArray, List.set_cons_zero, List.set_cons_succ]
      refine wpAnyH_done (by kernel_rfl) ?_ _
      go_wp2_with fail
      go_ret
      exact ⟨by rw [← HE.out]; rfl, hHeld.1.1⟩
    · skip
      go_simp
      have hB9 : Below V6.heap.size V6 (V6.alloc (.cells #[.int .u8 (11)] 5)) := (Below.refl _ _).alloc (Nat.le_refl _) _
      have hc9 : (V6.alloc (.cells #[.int .u8 (11)] 5)).cell? ⟨V6.heap.size, 0, none⟩ = some (.int .u8 (11)) := by simp
      refine hK.out _ _ ((hHeld).trans ((hB9).mono (hHeld).size)) (fun hHeld => ?_)
      generalize hg9 : V6.heap.size = g9 at *
      generalize hV9 : V6.alloc (.cells #[.int .u8 (11)] 5) = V9 at *
      refine held_mono (S' := fun W => (Below w.heap.size w W) ∧ W.cell? ⟨g9, 0, none⟩ = some (.int .u8 (11))) (fun _ h => h.1) ?_
      replace hHeld : (fun W => (Below w.heap.size w W) ∧ W.cell? ⟨g9, 0, none⟩ = some (.int .u8 (11))) V9 := ⟨hHeld, hc9⟩
      clear hB9 hc9 hg9 hV9
      clear hK K
      try simp only [Act.put, List.setIfInBounds_toArray, List.set_cons_zero, List.set_cons_succ]
      refine take_yes (i := 7) (d := (some 17)) (v := ?_) rfl (by kernel_rfl) (by kernel_rfl) (by kernel_rfl) rfl (fun _ _ _ h => h) (by rfl) (by assumption) ?_ ?_
      rotate_left
      · (intro w hSw; (try dsimp only at hSw); have hq := one_at hSw.2 (by decide) (by decide); go_simp; try with_reducible rfl)
      try simp only [Act.put, List.setIfInBounds_toArray, List.set_cons_zero, List.set_cons_succ]
      refine wpAnyH_ready (rs := [1]) (by kernel_rfl) (by simp) ?_
      refine (AllReadyH.cons (o := _) rfl (fun K hK => ?_) AllReadyH.nil)
      go_simp
      have hB9 : Below V9.heap.size V9 (V9.alloc (.cells #[.int .u8 (65)] 5)) := (Below.refl _ _).alloc (Nat.le_refl _) _
      have hc9 : (V9.alloc (.cells #[.int .u8 (65)] 5)).cell? ⟨V9.heap.size, 0, none⟩ = some (.int .u8 (65)) := by simp
      refine hK.out _ _ (⟨(hHeld.1).trans ((hB9).mono (hHeld.1).size), cell_later hB9 hHeld.2⟩) (fun hHeld => ?_)
      generalize hg9 : V9.heap.size = g10 at *
      generalize hV9 : V9.alloc (.cells #[.int .u8 (65)] 5) = V10 at *
      refine held_mono (S' := fun W => ((Below w.heap.size w W) ∧ W.cell? ⟨g9, 0, none⟩ = some (.int .u8 (11))) ∧ W.cell? ⟨g10, 0, none⟩ = some (.int .u8 (65))) (fun _ h => h.1) ?_
      replace hHeld : (fun W => ((Below w.heap.size w W) ∧ W.cell? ⟨g9, 0, none⟩ = some (.int .u8 (11))) ∧ W.cell? ⟨g10, 0, none⟩ = some (.int .u8 (65))) V10 := ⟨hHeld, hc9⟩
      clear hB9 hc9 hg9 hV9
      clear hK K
      try simp only [Act.put, List.setIfInBounds_toArray, List.set_cons_zero, List.set_cons_succ]
      refine take_yes (i := 2) (d := (some 12)) (v := ?_) rfl (by kernel_rfl) (by kernel_rfl) (by kernel_rfl) rfl (fun _ _ _ h => h) (by rfl) (by assumption) ?_ ?_
      rotate_left
      · (intro w hSw; (try dsimp only at hSw); have hq := one_at hSw.2 (by decide) (by decide); go_simp; try with_reducible rfl)
      try simp only [Act.put, List.setIfInBounds_toArray, List.set_cons_zero, List.set_cons_succ]
      refine take_yes (i := 5) (d := (some 15)) (v := ?_) rfl (by kernel_rfl) (by kernel_rfl) (by kernel_rfl) rfl (fun _ _ _ h => h) (by rfl) (by assumption) ?_ ?_
      rotate_left
      · (intro w hSw; (try dsimp only at hSw); go_simp; try with_reducible rfl)
      try simp only [Act.put, List.setIfInBounds_toArray, List.set_cons_zero, List.set_cons_succ]
      refine take_yes (i := 8) (d := (some 18)) (v := ?_) rfl (by kernel_rfl) (by kernel_rfl) (by kernel_rfl) rfl (fun _ _ _ h => h) (by rfl) (by assumption) ?_ ?_
      rotate_left
      · (intro w hSw; (try dsimp only at hSw); go_simp; try with_reducible rfl)
      try simp only [Act.put, List.setIfInBounds_toArray, List.set_cons_zero, List.set_cons_succ]
      refine take_yes (i := 9) (d := (some 4)) (v := ?_) rfl (by kernel_rfl) (by kernel_rfl) (by kernel_rfl) rfl (fun _ _ _ h => h) (by rfl) (by assumption) ?_ ?_
      rotate_left
      · (intro w hSw; (try dsimp only at hSw); go_simp; try with_reducible rfl)
      try simp only [Act.put, List.setIfInBounds_toArray, List.set_cons_zero, List.set_cons_succ]
      refine wpAnyH_done (by kernel_rfl) ?_ _
      go_wp2_with fail
      go_ret
      exact ⟨by rw [← HE.out]; rfl, hHeld.1.1⟩
  · skip
    go_simp
    have hB9 : Below V0.heap.size V0 (V0.alloc (.cells #[.int .u8 (11)] 5)) := (Below.refl _ _).alloc (Nat.le_refl _) _
    have hc9 : (V0.alloc (.cells #[.int .u8 (11)] 5)).cell? ⟨V0.heap.size, 0, none⟩ = some (.int .u8 (11)) := by simp
    refine hK.out _ _ ((hHeld).trans ((hB9).mono (hHeld).size)) (fun hHeld => ?_)
    generalize hg9 : V0.heap.size = g11 at *
    generalize hV9 : V0.alloc (.cells #[.int .u8 (11)] 5) = V11 at *
    refine held_mono (S' := fun W => (Below w.heap.size w W) ∧ W.cell? ⟨g11, 0, none⟩ = some (.int .u8 (11))) (fun _ h => h.1) ?_
    replace hHeld : (fun W => (Below w.heap.size w W) ∧ W.cell? ⟨g11, 0, none⟩ = some (.int .u8 (11))) V11 := ⟨hHeld, hc9⟩
    clear hB9 hc9 hg9 hV9
    clear hK K
    try simp only [Act.put, List.setIfInBounds_toArray, List.set_cons_zero, List.set_cons_succ]
    refine take_yes (i := 7) (d := (some 17)) (v := ?_) rfl (by kernel_rfl) (by kernel_rfl) (by kernel_rfl) rfl (fun _ _ _ h => h) (by rfl) (by assumption) ?_ ?_
    rotate_left
    · (intro w hSw; (try dsimp only at hSw); have hq := one_at hSw.2 (by decide) (by decide); go_simp; try with_reducible rfl)
    try simp only [Act.put, List.setIfInBounds_toArray, List.set_cons_zero, List.set_cons_succ]
    refine wpAnyH_ready (rs := [1, 4]) (by kernel_rfl) (by simp) ?_
    refine (AllReadyH.cons (o := _) rfl (fun K hK => ?_) (AllReadyH.cons (o := _) rfl (fun K hK => ?_) AllReadyH.nil))
    · skip
      go_simp
      have hB9 : Below V11.heap.size V11 (V11.alloc (.cells #[.int .u8 (65)] 5)) := (Below.refl _ _).alloc (Nat.le_refl _) _
      have hc9 : (V11.alloc (.cells #[.int .u8 (65)] 5)).cell? ⟨V11.heap.size, 0, none⟩ = some (.int .u8 (65)) := by simp
      refine hK.out _ _ (⟨(hHeld.1).trans ((hB9).mono (hHeld.1).size), cell_later hB9 hHeld.2⟩) (fun hHeld => ?_)
      generalize hg9 : V11.heap.size = g12 at *
      generalize hV9 : V11.alloc (.cells #[.int .u8 (65)] 5) = V12 at *
      refine held_mono (S' := fun W => ((Below w.heap.size w W) ∧ W.cell? ⟨g11, 0, none⟩ = some (.int .u8 (11))) ∧ W.cell? ⟨g12, 0, none⟩ = some (.int .u8 (65))) (fun _ h => h.1) ?_
      replace hHeld : (fun W => ((Below w.heap.size w W) ∧ W.cell? ⟨g11, 0, none⟩ = some (.int .u8 (11))) ∧ W.cell? ⟨g12, 0, none⟩ = some (.int .u8 (65))) V12 := ⟨hHeld, hc9⟩
      clear hB9 hc9 hg9 hV9
      clear hK K
      try simp only [Act.put, List.setIfInBounds_toArray, List.set_cons_zero, List.set_cons_succ]
      refine take_yes (i := 2) (d := (some 12)) (v := ?_) rfl (by kernel_rfl) (by kernel_rfl) (by kernel_rfl) rfl (fun _ _ _ h => h) (by rfl) (by assumption) ?_ ?_
      rotate_left
      · (intro w hSw; (try dsimp only at hSw); have hq := one_at hSw.2 (by decide) (by decide); go_simp; try with_reducible rfl)
      try simp only [Act.put, List.setIfInBounds_toArray, List.set_cons_zero, List.set_cons_succ]
      refine wpAnyH_ready (rs := [4]) (by kernel_rfl) (by simp) ?_
      refine (AllReadyH.cons (o := _) rfl (fun K hK => ?_) AllReadyH.nil)
      go_simp
      go_at_call 133
      refine (putS_i64 n V12 hn).mono ?_
      rintro en V13 ⟨rfl, c9⟩
      go_wp2_with fail
      refine hK.out _ _ (⟨⟨(hHeld.1.1).trans ((c9).mono (hHeld.1.1).size), cell_later c9 hHeld.1.2⟩, cell_later c9 hHeld.2⟩) (fun hHeld => ?_)
      clear c9
      clear hK K
      try simp only [Act.put, List.setIfInBounds_toArray, List.set_cons_zero, List.set_cons_succ]
      refine take_yes (i := 5) (d := (some 15)) (v := ?_) rfl (by kernel_rfl) (by kernel_rfl) (by kernel_rfl) rfl (fun _ _ _ h => h) (by rfl) (by assumption) ?_ ?_
      rotate_left
      · (intro w hSw; (try dsimp only at hSw); go_simp; try with_reducible rfl)
      try simp only [Act.put, List.setIfInBounds_toArray, List.set_cons_zero, List.set_cons_succ]
      refine take_yes (i := 8) (d := (some 18)) (v := ?_) rfl (by kernel_rfl) (by kernel_rfl) (by kernel_rfl) rfl (fun _ _ _ h => h) (by rfl) (by assumption) ?_ ?_
      rotate_left
      · (intro w hSw; (try dsimp only at hSw); go_simp; try with_reducible rfl)
      try simp only [Act.put, List.setIfInBounds_toArray, List.set_cons_zero, List.set_cons_succ]
      refine take_yes (i := 9) (d := (some 4)) (v := ?_) rfl (by kernel_rfl) (by kernel_rfl) (by kernel_rfl) rfl (fun _ _ _ h => h) (by rfl) (by assumption) ?_ ?_
      rotate_left
      · (intro w hSw; (try dsimp only at hSw); go_simp; try with_reducible rfl)
      try simp only [Act.put, List.setIfInBounds_toArray, List.set_cons_zero, List.set_cons_succ]
      refine wpAnyH_done (by kernel_rfl) ?_ _
      go_wp2_with fail
      go_ret
      exact ⟨by rw [← HE.out]; rfl, hHeld.1.1⟩
    · skip
      go_simp
      go_at_call 133
      refine (putS_i64 n V11 hn).mono ?_
      rintro en V14 ⟨rfl, c9⟩
      go_wp2_with fail
      refine hK.out _ _ (⟨(hHeld.1).trans ((c9).mono (hHeld.1).size), cell_later c9 hHeld.2⟩) (fun hHeld => ?_)
      clear c9
      clear hK K
      try simp only [Act.put, List.setIfInBounds_toArray, List.set_cons_zero, List.set_cons_succ]
      refine wpAnyH_ready (rs := [1]) (by kernel_rfl) (by simp) ?_
      refine (AllReadyH.cons (o := _) rfl (fun K hK => ?_) AllReadyH.nil)
      go_simp
      have hB9 : Below V14.heap.size V14 (V14.alloc (.cells #[.int .u8 (65)] 5)) := (Below.refl _ _).alloc (Nat.le_refl _) _
      have hc9 : (V14.alloc (.cells #[.int .u8 (65)] 5)).cell? ⟨V14.heap.size, 0, none⟩ = some (.int .u8 (65)) := by simp
      refine hK.out _ _ (⟨(hHeld.1).trans ((hB9).mono (hHeld.1).size), cell_later hB9 hHeld.2⟩) (fun hHeld => ?_)
      generalize hg9 : V14.heap.size = g15 at *
      generalize hV9 : V14.alloc (.cells #[.int .u8 (65)] 5) = V15 at *
      refine held_mono (S' := fun W => ((Below w.heap.size w W) ∧ W.cell? ⟨g11, 0, none⟩ = some (.int .u8 (11))) ∧ W.cell? ⟨g15, 0, none⟩ = some (.int .u8 (65))) (fun _ h => h.1) ?_
      replace hHeld : (fun W => ((Below w.heap.size w W) ∧ W.cell? ⟨g11, 0, none⟩ = some (.int .u8 (11))) ∧ W.cell? ⟨g15, 0, none⟩ = some (.int .u8 (65))) V15 := ⟨hHeld, hc9⟩
      clear hB9 hc9 hg9 hV9
      clear hK K
      try simp only [Act.put, List.setIfInBounds_toArray, List.set_cons_zero, List.set_cons_succ]
      refine take_yes (i := 2) (d := (some 12)) (v := ?_) rfl (by kernel_rfl) (by kernel_rfl) (by kernel_rfl) rfl (fun _ _ _ h => h) (by rfl) (by assumption) ?_ ?_
      rotate_left
      · (intro w hSw; (try dsimp only at hSw); have hq := one_at hSw.2 (by decide) (by decide); go_simp; try with_reducible rfl)
      try simp only [Act.put, List.setIfInBounds_toArray, List.set_cons_zero, List.set_cons_succ]
      refine take_yes (i := 5) (d := (some 15)) (v := ?_) rfl (by kernel_rfl) (by kernel_rfl) (by kernel_rfl) rfl (fun _ _ _ h => h) (by rfl) (by assumption) ?_ ?_
      rotate_left
      · (intro w hSw; (try dsimp only at hSw); go_simp; try with_reducible rfl)
      try simp only [Act.put, List.setIfInBounds_toArray, List.set_cons_zero, List.set_cons_succ]
      refine take_yes (i := 8) (d := (some 18)) (v := ?_) rfl (by kernel_rfl) (by kernel_rfl) (by kernel_rfl) rfl (fun _ _ _ h => h) (by rfl) (by assumption) ?_ ?_
      rotate_left
      · (intro w hSw; (try dsimp only at hSw); go_simp; try with_reducible rfl)
      try simp only [Act.put, List.setIfInBounds_toArray, List.set_cons_zero, List.set_cons_succ]
      refine take_yes (i := 9) (d := (some 4)) (v := ?_) rfl (by kernel_rfl) (by kernel_rfl) (by kernel_rfl) rfl (fun _ _ _ h => h) (by rfl) (by assumption) ?_ ?_
      rotate_left
      · (intro w hSw; (try dsimp only at hSw); go_simp; try with_reducible rfl)
      try simp only [Act.put, List.setIfInBounds_toArray, List.set_cons_zero, List.set_cons_succ]
      refine wpAnyH_done (by kernel_rfl) ?_ _
      go_wp2_with fail
      go_ret
      exact ⟨by rw [← HE.out]; rfl, hHeld.1.1⟩
theorem const_any (k n : Int) (w : World) (hn : (Lit.int .i64 n).wf = true) :
    Calls Tryz.prog 54 #[.int .i64 k, .int .i64 n] w fun e w' => e = .returned (.string (bs (constL k n))) ∧ Below w.heap.size w w' := by
  by_cases hk : k = 126
  · subst hk; exact const_l n w hn
  · exact const_w k hk n w hn
set_option maxRecDepth 100000 in
set_option maxHeartbeats 4000000 in
theorem ft_any (p q : ByteArray) (w : World) (hp : p.size ≤ 140737488355328) (hq : q.size ≤ 140737488355328) :
    Calls Tryz.prog 43 #[.agg #[.string p, .string q]] w fun e w' => e = .returned (.string (bs (ftL ⟨p, q⟩))) ∧ Below w.heap.size w w' := by
  have HE := Lib.hid (show bs [byteOf 96] ++ bs (strL p) ++ bs (strL q) = bs (ftL ⟨p, q⟩) by rw [bs_app, bs_app, List.append_assoc]; rfl)
  have h1 : (bs [byteOf 96]).size = 1 := rfl
  have h2 : (bs (strL p)).size ≤ 10 + p.size := by rw [bs_size]; exact str_len p
  have h3 : (bs (strL q)).size ≤ 10 + q.size := by rw [bs_size]; exact str_len q
  have hz2 : ¬ 9223372036854775807 < (bs [byteOf 96]).size + (bs (strL p)).size := by omega
  have hz3 : ¬ 9223372036854775807 < (bs [byteOf 96]).size + (bs (strL p)).size + (bs (strL q)).size := by omega
  clear h1 h2 h3
  obtain ⟨W1, hW1⟩ : ∃ W1, w.alloc (.cells #[.string p, .string q] 82) = W1 := ⟨_, rfl⟩
  have B1 : Below w.heap.size w W1 := by rw [← hW1]; exact (Below.refl _ _).alloc (Nat.le_refl _) _
  have BB := Lib.hid B1
  have q0 : W1.cell? ⟨w.heap.size, 0, none⟩ = some (.string p) := by rw [← hW1]; simp
  have q1 : W1.cell? ⟨w.heap.size, 1, none⟩ = some (.string q) := by rw [← hW1]; simp
  have HW := Lib.hid hW1
  clear hW1 B1
  go_enter Tryz.func43, Tryz.ntmps43
  go_upto_region 1 with fail
  rw [HW.out]
  refine wp_region_held_drew (S := fun W => ((Below w.heap.size w W) ∧ W.cell? ⟨w.heap.size, 0, none⟩ = some (.string p)) ∧ W.cell? ⟨w.heap.size, 1, none⟩ = some (.string q)) (by kernel_rfl) ⟨⟨BB.out.drew, q0⟩, q1⟩ (fun hHeld => ?_)
  obtain ⟨V0, hV0⟩ : ∃ V, W1.drew = V := ⟨_, rfl⟩
  rw [hV0] at hHeld ⊢
  clear hV0 q0 q1
  refine take_yes (i := 2) (d := (some 5)) (v := ?_) rfl (by kernel_rfl) (by kernel_rfl) (by kernel_rfl) rfl (fun _ _ _ h => h) (by rfl) (by assumption) ?_ ?_
  rotate_left
  · (intro w hSw; (try dsimp only at hSw); go_simp; try with_reducible rfl)
  try simp only [Act.put, List.setIfInBounds_toArray, List.set_cons_zero, List.set_cons_succ]
  refine take_yes (i := 3) (d := (some 6)) (v := ?_) rfl (by kernel_rfl) (by kernel_rfl) (by kernel_rfl) rfl (fun _ _ _ h => h) (by rfl) (by assumption) ?_ ?_
  rotate_left
  · (intro w hSw; (try dsimp only at hSw); go_simp; try with_reducible rfl)
  try simp only [Act.put, List.setIfInBounds_toArray, List.set_cons_zero, List.set_cons_succ]
  refine take_yes (i := 6) (d := (some 9)) (v := ?_) rfl (by kernel_rfl) (by kernel_rfl) (by kernel_rfl) rfl (fun _ _ _ h => h) (by rfl) (by assumption) ?_ ?_
  rotate_left
  · (intro w hSw; (try dsimp only at hSw); go_simp; try with_reducible rfl)
  try simp only [Act.put, List.setIfInBounds_toArray, List.set_cons_zero, List.set_cons_succ]
  refine take_yes (i := 7) (d := (some 10)) (v := ?_) rfl (by kernel_rfl) (by kernel_rfl) (by kernel_rfl) rfl (fun _ _ _ h => h) (by rfl) (by assumption) ?_ ?_
  rotate_left
  · (intro w hSw; (try dsimp only at hSw); go_simp; try with_reducible rfl)
  try simp only [Act.put, List.setIfInBounds_toArray, List.set_cons_zero, List.set_cons_succ]
  refine wpAnyH_ready (rs := [0, 4]) (by kernel_rfl) (by simp) ?_
  refine (AllReadyH.cons (o := _) rfl (fun K hK => ?_) (AllReadyH.cons (o := _) rfl (fun K hK => ?_) AllReadyH.nil))
  · skip
    go_simp
    have hB9 : Below V0.heap.size V0 (V0.alloc (.cells #[.int .u8 (96)] 5)) := (Below.refl _ _).alloc (Nat.le_refl _) _
    have hc9 : (V0.alloc (.cells #[.int .u8 (96)] 5)).cell? ⟨V0.heap.size, 0, none⟩ = some (.int .u8 (96)) := by simp
    refine hK.out _ _ (⟨⟨(hHeld.1.1).trans ((hB9).mono (hHeld.1.1).size), cell_later hB9 hHeld.1.2⟩, cell_later hB9 hHeld.2⟩) (fun hHeld => ?_)
    generalize hg9 : V0.heap.size = g1 at *
    generalize hV9 : V0.alloc (.cells #[.int .u8 (96)] 5) = V1 at *
    refine held_mono (S' := fun W => (((Below w.heap.size w W) ∧ W.cell? ⟨w.heap.size, 0, none⟩ = some (.string p)) ∧ W.cell? ⟨w.heap.size, 1, none⟩ = some (.string q)) ∧ W.cell? ⟨g1, 0, none⟩ = some (.int .u8 (96))) (fun _ h => h.1) ?_
    replace hHeld : (fun W => (((Below w.heap.size w W) ∧ W.cell? ⟨w.heap.size, 0, none⟩ = some (.string p)) ∧ W.cell? ⟨w.heap.size, 1, none⟩ = some (.string q)) ∧ W.cell? ⟨g1, 0, none⟩ = some (.int .u8 (96))) V1 := ⟨hHeld, hc9⟩
    clear hB9 hc9 hg9 hV9
    clear hK K
    try simp only [Act.put, List.setIfInBounds_toArray, List.set_cons_zero, List.set_cons_succ]
    refine take_yes (i := 1) (d := (some 4)) (v := ?_) rfl (by kernel_rfl) (by kernel_rfl) (by kernel_rfl) rfl (fun _ _ _ h => h) (by rfl) (by assumption) ?_ ?_
    rotate_left
    · (intro w hSw; (try dsimp only at hSw); have hq9 := one_at hSw.2 (by decide) (by decide); go_simp; try with_reducible rfl)
    try simp only [Act.put, List.setIfInBounds_toArray, List.set_cons_zero, List.set_cons_succ]
    refine wpAnyH_ready (rs := [4]) (by kernel_rfl) (by simp) ?_
    refine (AllReadyH.cons (o := _) rfl (fun K hK => ?_) AllReadyH.nil)
    go_simp
    go_at_call 37
    refine (text_any p V1 (by omega)).mono ?_
    rintro en V2 ⟨rfl, c9⟩
    go_wp2_with fail
    refine hK.out _ _ (⟨⟨⟨(hHeld.1.1.1).trans ((c9).mono (hHeld.1.1.1).size), cell_later c9 hHeld.1.1.2⟩, cell_later c9 hHeld.1.2⟩, cell_later c9 hHeld.2⟩) (fun hHeld => ?_)
    clear c9
    clear hK K
    try simp only [Act.put, List.setIfInBounds_toArray, List.set_cons_zero, List.set_cons_succ]
    refine take_yes (i := 5) (d := (some 8)) (v := ?_) rfl (by kernel_rfl) (by kernel_rfl) (by kernel_rfl) rfl (fun _ _ _ h => h) (by rfl) (by assumption) ?_ ?_
    rotate_left
    · (intro w hSw; (try dsimp only at hSw); go_simp; try with_reducible rfl)
    try simp only [Act.put, List.setIfInBounds_toArray, List.set_cons_zero, List.set_cons_succ]
    refine wpAnyH_ready (rs := [8]) (by kernel_rfl) (by simp) ?_
    refine (AllReadyH.cons (o := _) rfl (fun K hK => ?_) AllReadyH.nil)
    go_simp
    go_at_call 37
    refine (text_any q V2 (by omega)).mono ?_
    rintro en V3 ⟨rfl, c9⟩
    go_wp2_with fail
    refine hK.out _ _ (⟨⟨⟨(hHeld.1.1.1).trans ((c9).mono (hHeld.1.1.1).size), cell_later c9 hHeld.1.1.2⟩, cell_later c9 hHeld.1.2⟩, cell_later c9 hHeld.2⟩) (fun hHeld => ?_)
    clear c9
    clear hK K
    try simp only [Act.put, List.setIfInBounds_toArray, List.set_cons_zero, List.set_cons_succ]
    refine take_yes (i := 9) (d := (some 12)) (v := ?_) rfl (by kernel_rfl) (by kernel_rfl) (by kernel_rfl) rfl (fun _ _ _ h => h) (by rfl) (by assumption) ?_ ?_
    rotate_left
    · (intro w hSw; (try dsimp only at hSw); go_simp; try with_reducible rfl)
    try simp only [Act.put, List.setIfInBounds_toArray, List.set_cons_zero, List.set_cons_succ]
    refine take_yes (i := 10) (d := (some 2)) (v := ?_) rfl (by kernel_rfl) (by kernel_rfl) (by kernel_rfl) rfl (fun _ _ _ h => h) (by rfl) (by assumption) ?_ ?_
    rotate_left
    · (intro w hSw; (try dsimp only at hSw); go_simp; try with_reducible rfl)
    try simp only [Act.put, List.setIfInBounds_toArray, List.set_cons_zero, List.set_cons_succ]
    refine wpAnyH_done (by kernel_rfl) ?_ _
    go_wp2_with fail
    go_ret
    exact ⟨by rw [← HE.out]; rfl, hHeld.1.1.1⟩
  · skip
    go_simp
    go_at_call 37
    refine (text_any p V0 (by omega)).mono ?_
    rintro en V4 ⟨rfl, c9⟩
    go_wp2_with fail
    refine hK.out _ _ (⟨⟨(hHeld.1.1).trans ((c9).mono (hHeld.1.1).size), cell_later c9 hHeld.1.2⟩, cell_later c9 hHeld.2⟩) (fun hHeld => ?_)
    clear c9
    clear hK K
    try simp only [Act.put, List.setIfInBounds_toArray, List.set_cons_zero, List.set_cons_succ]
    refine wpAnyH_ready (rs := [0, 8]) (by kernel_rfl) (by simp) ?_
    refine (AllReadyH.cons (o := _) rfl (fun K hK => ?_) (AllReadyH.cons (o := _) rfl (fun K hK => ?_) AllReadyH.nil))
    · skip
      go_simp
      have hB9 : Below V4.heap.size V4 (V4.alloc (.cells #[.int .u8 (96)] 5)) := (Below.refl _ _).alloc (Nat.le_refl _) _
      have hc9 : (V4.alloc (.cells #[.int .u8 (96)] 5)).cell? ⟨V4.heap.size, 0, none⟩ = some (.int .u8 (96)) := by simp
      refine hK.out _ _ (⟨⟨(hHeld.1.1).trans ((hB9).mono (hHeld.1.1).size), cell_later hB9 hHeld.1.2⟩, cell_later hB9 hHeld.2⟩) (fun hHeld => ?_)
      generalize hg9 : V4.heap.size = g5 at *
      generalize hV9 : V4.alloc (.cells #[.int .u8 (96)] 5) = V5 at *
      refine held_mono (S' := fun W => (((Below w.heap.size w W) ∧ W.cell? ⟨w.heap.size, 0, none⟩ = some (.string p)) ∧ W.cell? ⟨w.heap.size, 1, none⟩ = some (.string q)) ∧ W.cell? ⟨g5, 0, none⟩ = some (.int .u8 (96))) (fun _ h => h.1) ?_
      replace hHeld : (fun W => (((Below w.heap.size w W) ∧ W.cell? ⟨w.heap.size, 0, none⟩ = some (.string p)) ∧ W.cell? ⟨w.heap.size, 1, none⟩ = some (.string q)) ∧ W.cell? ⟨g5, 0, none⟩ = some (.int .u8 (96))) V5 := ⟨hHeld, hc9⟩
      clear hB9 hc9 hg9 hV9
      clear hK K
      try simp only [Act.put, List.setIfInBounds_toArray, List.set_cons_zero, List.set_cons_succ]
      refine take_yes (i := 1) (d := (some 4)) (v := ?_) rfl (by kernel_rfl) (by kernel_rfl) (by kernel_rfl) rfl (fun _ _ _ h => h) (by rfl) (by assumption) ?_ ?_
      rotate_left
      · (intro w hSw; (try dsimp only at hSw); have hq9 := one_at hSw.2 (by decide) (by decide); go_simp; try with_reducible rfl)
      try simp only [Act.put, List.setIfInBounds_toArray, List.set_cons_zero, List.set_cons_succ]
      refine take_yes (i := 5) (d := (some 8)) (v := ?_) rfl (by kernel_rfl) (by kernel_rfl) (by kernel_rfl) rfl (fun _ _ _ h => h) (by rfl) (by assumption) ?_ ?_
      rotate_left
      · (intro w hSw; (try dsimp only at hSw); go_simp; try with_reducible rfl)
      try simp only [Act.put, List.setIfInBounds_toArray, List.set_cons_zero, List.set_cons_succ]
      refine wpAnyH_ready (rs := [8]) (by kernel_rfl) (by simp) ?_
      refine (AllReadyH.cons (o := _) rfl (fun K hK => ?_) AllReadyH.nil)
      go_simp
      go_at_call 37
      refine (text_any q V5 (by omega)).mono ?_
      rintro en V6 ⟨rfl, c9⟩
      go_wp2_with fail
      refine hK.out _ _ (⟨⟨⟨(hHeld.1.1.1).trans ((c9).mono (hHeld.1.1.1).size), cell_later c9 hHeld.1.1.2⟩, cell_later c9 hHeld.1.2⟩, cell_later c9 hHeld.2⟩) (fun hHeld => ?_)
      clear c9
      clear hK K
      try simp only [Act.put, List.setIfInBounds_toArray, List.set_cons_zero, List.set_cons_succ]
      refine take_yes (i := 9) (d := (some 12)) (v := ?_) rfl (by kernel_rfl) (by kernel_rfl) (by kernel_rfl) rfl (fun _ _ _ h => h) (by rfl) (by assumption) ?_ ?_
      rotate_left
      · (intro w hSw; (try dsimp only at hSw); go_simp; try with_reducible rfl)
      try simp only [Act.put, List.setIfInBounds_toArray, List.set_cons_zero, List.set_cons_succ]
      refine take_yes (i := 10) (d := (some 2)) (v := ?_) rfl (by kernel_rfl) (by kernel_rfl) (by kernel_rfl) rfl (fun _ _ _ h => h) (by rfl) (by assumption) ?_ ?_
      rotate_left
      · (intro w hSw; (try dsimp only at hSw); go_simp; try with_reducible rfl)
      try simp only [Act.put, List.setIfInBounds_toArray, List.set_cons_zero, List.set_cons_succ]
      refine wpAnyH_done (by kernel_rfl) ?_ _
      go_wp2_with fail
      go_ret
      exact ⟨by rw [← HE.out]; rfl, hHeld.1.1.1⟩
    · skip
      go_simp
      go_at_call 37
      refine (text_any q V4 (by omega)).mono ?_
      rintro en V7 ⟨rfl, c9⟩
      go_wp2_with fail
      refine hK.out _ _ (⟨⟨(hHeld.1.1).trans ((c9).mono (hHeld.1.1).size), cell_later c9 hHeld.1.2⟩, cell_later c9 hHeld.2⟩) (fun hHeld => ?_)
      clear c9
      clear hK K
      try simp only [Act.put, List.setIfInBounds_toArray, List.set_cons_zero, List.set_cons_succ]
      refine wpAnyH_ready (rs := [0]) (by kernel_rfl) (by simp) ?_
      refine (AllReadyH.cons (o := _) rfl (fun K hK => ?_) AllReadyH.nil)
      go_simp
      have hB9 : Below V7.heap.size V7 (V7.alloc (.cells #[.int .u8 (96)] 5)) := (Below.refl _ _).alloc (Nat.le_refl _) _
      have hc9 : (V7.alloc (.cells #[.int .u8 (96)] 5)).cell? ⟨V7.heap.size, 0, none⟩ = some (.int .u8 (96)) := by simp
      refine hK.out _ _ (⟨⟨(hHeld.1.1).trans ((hB9).mono (hHeld.1.1).size), cell_later hB9 hHeld.1.2⟩, cell_later hB9 hHeld.2⟩) (fun hHeld => ?_)
      generalize hg9 : V7.heap.size = g8 at *
      generalize hV9 : V7.alloc (.cells #[.int .u8 (96)] 5) = V8 at *
      refine held_mono (S' := fun W => (((Below w.heap.size w W) ∧ W.cell? ⟨w.heap.size, 0, none⟩ = some (.string p)) ∧ W.cell? ⟨w.heap.size, 1, none⟩ = some (.string q)) ∧ W.cell? ⟨g8, 0, none⟩ = some (.int .u8 (96))) (fun _ h => h.1) ?_
      replace hHeld : (fun W => (((Below w.heap.size w W) ∧ W.cell? ⟨w.heap.size, 0, none⟩ = some (.string p)) ∧ W.cell? ⟨w.heap.size, 1, none⟩ = some (.string q)) ∧ W.cell? ⟨g8, 0, none⟩ = some (.int .u8 (96))) V8 := ⟨hHeld, hc9⟩
      clear hB9 hc9 hg9 hV9
      clear hK K
      try simp only [Act.put, List.setIfInBounds_toArray, List.set_cons_zero, List.set_cons_succ]
      refine take_yes (i := 1) (d := (some 4)) (v := ?_) rfl (by kernel_rfl) (by kernel_rfl) (by kernel_rfl) rfl (fun _ _ _ h => h) (by rfl) (by assumption) ?_ ?_
      rotate_left
      · (intro w hSw; (try dsimp only at hSw); have hq9 := one_at hSw.2 (by decide) (by decide); go_simp; try with_reducible rfl)
      try simp only [Act.put, List.setIfInBounds_toArray, List.set_cons_zero, List.set_cons_succ]
      refine take_yes (i := 5) (d := (some 8)) (v := ?_) rfl (by kernel_rfl) (by kernel_rfl) (by kernel_rfl) rfl (fun _ _ _ h => h) (by rfl) (by assumption) ?_ ?_
      rotate_left
      · (intro w hSw; (try dsimp only at hSw); go_simp; try with_reducible rfl)
      try simp only [Act.put, List.setIfInBounds_toArray, List.set_cons_zero, List.set_cons_succ]
      refine take_yes (i := 9) (d := (some 12)) (v := ?_) rfl (by kernel_rfl) (by kernel_rfl) (by kernel_rfl) rfl (fun _ _ _ h => h) (by rfl) (by assumption) ?_ ?_
      rotate_left
      · (intro w hSw; (try dsimp only at hSw); go_simp; try with_reducible rfl)
      try simp only [Act.put, List.setIfInBounds_toArray, List.set_cons_zero, List.set_cons_succ]
      refine take_yes (i := 10) (d := (some 2)) (v := ?_) rfl (by kernel_rfl) (by kernel_rfl) (by kernel_rfl) rfl (fun _ _ _ h => h) (by rfl) (by assumption) ?_ ?_
      rotate_left
      · (intro w hSw; (try dsimp only at hSw); go_simp; try with_reducible rfl)
      try simp only [Act.put, List.setIfInBounds_toArray, List.set_cons_zero, List.set_cons_succ]
      refine wpAnyH_done (by kernel_rfl) ?_ _
      go_wp2_with fail
      go_ret
      exact ⟨by rw [← HE.out]; rfl, hHeld.1.1.1⟩
set_option maxRecDepth 100000 in
set_option maxHeartbeats 4000000 in
theorem exp_any (p : ByteArray) (k n : Int) (w : World) (hp : p.size ≤ 140737488355328) :
    Calls Tryz.prog 57 #[.agg #[.string p, .int .i64 k, .int .i64 n]] w fun e w' => e = .returned (.string (bs (expL ⟨p, k, n⟩))) ∧ Below w.heap.size w w' := by
  have HE := Lib.hid (show bs (strL p) ++ bs [byteOf (k % 256)] ++ bs (numL n) = bs (expL ⟨p, k, n⟩) by rw [bs_app, bs_app, byteOf_mod]; rfl)
  have hkw : IntKind.u8.wrap k = k % 256 := rfl
  have h1 : (bs [byteOf (k % 256)]).size = 1 := rfl
  have h2 : (bs (strL p)).size ≤ 10 + p.size := by rw [bs_size]; exact str_len p
  have h3 : (bs (numL n)).size ≤ 10 := by rw [bs_size]; exact num_len n
  have hz2 : ¬ 9223372036854775807 < (bs (strL p)).size + (bs [byteOf (k % 256)]).size := by omega
  have hz3 : ¬ 9223372036854775807 < (bs (strL p)).size + (bs [byteOf (k % 256)]).size + (bs (numL n)).size := by omega
  clear h1 h2 h3
  obtain ⟨W1, hW1⟩ : ∃ W1, w.alloc (.cells #[.string p, .int .i64 k, .int .i64 n] 90) = W1 := ⟨_, rfl⟩
  have B1 : Below w.heap.size w W1 := by rw [← hW1]; exact (Below.refl _ _).alloc (Nat.le_refl _) _
  have BB := Lib.hid B1
  have q0 : W1.cell? ⟨w.heap.size, 0, none⟩ = some (.string p) := by rw [← hW1]; simp
  have q1 : W1.cell? ⟨w.heap.size, 1, none⟩ = some (.int .i64 k) := by rw [← hW1]; simp
  have q2 : W1.cell? ⟨w.heap.size, 2, none⟩ = some (.int .i64 n) := by rw [← hW1]; simp
  have HW := Lib.hid hW1
  clear hW1 B1
  go_enter Tryz.func57, Tryz.ntmps57
  go_upto_region 1 with fail
  rw [HW.out]
  refine wp_region_held_drew (S := fun W => (((Below w.heap.size w W) ∧ W.cell? ⟨w.heap.size, 0, none⟩ = some (.string p)) ∧ W.cell? ⟨w.heap.size, 1, none⟩ = some (.int .i64 k)) ∧ W.cell? ⟨w.heap.size, 2, none⟩ = some (.int .i64 n)) (by kernel_rfl) ⟨⟨⟨BB.out.drew, q0⟩, q1⟩, q2⟩ (fun hHeld => ?_)
  obtain ⟨V0, hV0⟩ : ∃ V, W1.drew = V := ⟨_, rfl⟩
  rw [hV0] at hHeld ⊢
  clear hV0 q0 q1 q2
  refine take_yes (i := 0) (d := (some 3)) (v := ?_) rfl (by kernel_rfl) (by kernel_rfl) (by kernel_rfl) rfl (fun _ _ _ h => h) (by rfl) (by assumption) ?_ ?_
  rotate_left
  · (intro w hSw; (try dsimp only at hSw); go_simp; try with_reducible rfl)
  try simp only [Act.put, List.setIfInBounds_toArray, List.set_cons_zero, List.set_cons_succ]
  refine take_yes (i := 1) (d := (some 4)) (v := ?_) rfl (by kernel_rfl) (by kernel_rfl) (by kernel_rfl) rfl (fun _ _ _ h => h) (by rfl) (by assumption) ?_ ?_
  rotate_left
  · (intro w hSw; (try dsimp only at hSw); go_simp; try with_reducible rfl)
  try simp only [Act.put, List.setIfInBounds_toArray, List.set_cons_zero, List.set_cons_succ]
  refine take_yes (i := 3) (d := (some 6)) (v := ?_) rfl (by kernel_rfl) (by kernel_rfl) (by kernel_rfl) rfl (fun _ _ _ h => h) (by rfl) (by assumption) ?_ ?_
  rotate_left
  · (intro w hSw; (try dsimp only at hSw); go_simp; try with_reducible rfl)
  try simp only [Act.put, List.setIfInBounds_toArray, List.set_cons_zero, List.set_cons_succ]
  refine take_yes (i := 4) (d := (some 7)) (v := ?_) rfl (by kernel_rfl) (by kernel_rfl) (by kernel_rfl) rfl (fun _ _ _ h => h) (by rfl) (by assumption) ?_ ?_
  rotate_left
  · (intro w hSw; (try dsimp only at hSw); go_simp; try with_reducible rfl)
  try simp only [Act.put, List.setIfInBounds_toArray, List.set_cons_zero, List.set_cons_succ]
  refine take_yes (i := 5) (d := (some 8)) (v := ?_) rfl (by kernel_rfl) (by kernel_rfl) (by kernel_rfl) rfl (fun _ _ _ h => h) (by rfl) (by assumption) ?_ ?_
  rotate_left
  · (intro w hSw; (try dsimp only at hSw); go_simp; try with_reducible rfl)
  try simp only [Act.put, List.setIfInBounds_toArray, List.set_cons_zero, List.set_cons_succ]
  refine take_yes (i := 9) (d := (some 12)) (v := ?_) rfl (by kernel_rfl) (by kernel_rfl) (by kernel_rfl) rfl (fun _ _ _ h => h) (by rfl) (by assumption) ?_ ?_
  rotate_left
  · (intro w hSw; (try dsimp only at hSw); go_simp; try with_reducible rfl)
  try simp only [Act.put, List.setIfInBounds_toArray, List.set_cons_zero, List.set_cons_succ]
  refine take_yes (i := 10) (d := (some 13)) (v := ?_) rfl (by kernel_rfl) (by kernel_rfl) (by kernel_rfl) rfl (fun _ _ _ h => h) (by rfl) (by assumption) ?_ ?_
  rotate_left
  · (intro w hSw; (try dsimp only at hSw); go_simp; try with_reducible rfl)
  try simp only [Act.put, List.setIfInBounds_toArray, List.set_cons_zero, List.set_cons_succ]
  refine wpAnyH_ready (rs := [2, 6]) (by kernel_rfl) (by simp) ?_
  refine (AllReadyH.cons (o := _) rfl (fun K hK => ?_) (AllReadyH.cons (o := _) rfl (fun K hK => ?_) AllReadyH.nil))
  · skip
    go_simp
    go_at_call 37
    refine (text_any p V0 (by omega)).mono ?_
    rintro en V1 ⟨rfl, c9⟩
    go_wp2_with fail
    refine hK.out _ _ (⟨⟨⟨(hHeld.1.1.1).trans ((c9).mono (hHeld.1.1.1).size), cell_later c9 hHeld.1.1.2⟩, cell_later c9 hHeld.1.2⟩, cell_later c9 hHeld.2⟩) (fun hHeld => ?_)
    clear c9
    clear hK K
    try simp only [Act.put, List.setIfInBounds_toArray, List.set_cons_zero, List.set_cons_succ]
    refine wpAnyH_ready (rs := [6, 11]) (by kernel_rfl) (by simp) ?_
    refine (AllReadyH.cons (o := _) rfl (fun K hK => ?_) (AllReadyH.cons (o := _) rfl (fun K hK => ?_) AllReadyH.nil))
    · skip
      go_simp
      have hB9 : Below V1.heap.size V1 (V1.alloc (.cells #[.int .u8 (k % 256)] 5)) := (Below.refl _ _).alloc (Nat.le_refl _) _
      have hc9 : (V1.alloc (.cells #[.int .u8 (k % 256)] 5)).cell? ⟨V1.heap.size, 0, none⟩ = some (.int .u8 (k % 256)) := by simp
      refine hK.out _ _ (⟨⟨⟨(hHeld.1.1.1).trans ((hB9).mono (hHeld.1.1.1).size), cell_later hB9 hHeld.1.1.2⟩, cell_later hB9 hHeld.1.2⟩, cell_later hB9 hHeld.2⟩) (fun hHeld => ?_)
      generalize hg9 : V1.heap.size = g2 at *
      generalize hV9 : V1.alloc (.cells #[.int .u8 (k % 256)] 5) = V2 at *
      refine held_mono (S' := fun W => ((((Below w.heap.size w W) ∧ W.cell? ⟨w.heap.size, 0, none⟩ = some (.string p)) ∧ W.cell? ⟨w.heap.size, 1, none⟩ = some (.int .i64 k)) ∧ W.cell? ⟨w.heap.size, 2, none⟩ = some (.int .i64 n)) ∧ W.cell? ⟨g2, 0, none⟩ = some (.int .u8 (k % 256))) (fun _ h => h.1) ?_
      replace hHeld : (fun W => ((((Below w.heap.size w W) ∧ W.cell? ⟨w.heap.size, 0, none⟩ = some (.string p)) ∧ W.cell? ⟨w.heap.size, 1, none⟩ = some (.int .i64 k)) ∧ W.cell? ⟨w.heap.size, 2, none⟩ = some (.int .i64 n)) ∧ W.cell? ⟨g2, 0, none⟩ = some (.int .u8 (k % 256))) V2 := ⟨hHeld, hc9⟩
      clear hB9 hc9 hg9 hV9
      clear hK K
      try simp only [Act.put, List.setIfInBounds_toArray, List.set_cons_zero, List.set_cons_succ]
      refine take_yes (i := 7) (d := (some 10)) (v := ?_) rfl (by kernel_rfl) (by kernel_rfl) (by kernel_rfl) rfl (fun _ _ _ h => h) (by rfl) (by assumption) ?_ ?_
      rotate_left
      · (intro w hSw; (try dsimp only at hSw); have hq9 := one_at hSw.2 (by omega) (by omega); go_simp; try with_reducible rfl)
      try simp only [Act.put, List.setIfInBounds_toArray, List.set_cons_zero, List.set_cons_succ]
      refine take_yes (i := 8) (d := (some 11)) (v := ?_) rfl (by kernel_rfl) (by kernel_rfl) (by kernel_rfl) rfl (fun _ _ _ h => h) (by rfl) (by assumption) ?_ ?_
      rotate_left
      · (intro w hSw; (try dsimp only at hSw); go_simp; try with_reducible rfl)
      try simp only [Act.put, List.setIfInBounds_toArray, List.set_cons_zero, List.set_cons_succ]
      refine wpAnyH_ready (rs := [11]) (by kernel_rfl) (by simp) ?_
      refine (AllReadyH.cons (o := _) rfl (fun K hK => ?_) AllReadyH.nil)
      go_simp
      go_at_call 47
      refine (number_int n V2).mono ?_
      rintro en V3 ⟨rfl, c9⟩
      go_wp2_with fail
      refine hK.out _ _ (⟨⟨⟨⟨(hHeld.1.1.1.1).trans ((c9).mono (hHeld.1.1.1.1).size), cell_later c9 hHeld.1.1.1.2⟩, cell_later c9 hHeld.1.1.2⟩, cell_later c9 hHeld.1.2⟩, cell_later c9 hHeld.2⟩) (fun hHeld => ?_)
      clear c9
      clear hK K
      try simp only [Act.put, List.setIfInBounds_toArray, List.set_cons_zero, List.set_cons_succ]
      refine take_yes (i := 12) (d := (some 15)) (v := ?_) rfl (by kernel_rfl) (by kernel_rfl) (by kernel_rfl) rfl (fun _ _ _ h => h) (by rfl) (by assumption) ?_ ?_
      rotate_left
      · (intro w hSw; (try dsimp only at hSw); go_simp; try with_reducible rfl)
      try simp only [Act.put, List.setIfInBounds_toArray, List.set_cons_zero, List.set_cons_succ]
      refine take_yes (i := 13) (d := (some 2)) (v := ?_) rfl (by kernel_rfl) (by kernel_rfl) (by kernel_rfl) rfl (fun _ _ _ h => h) (by rfl) (by assumption) ?_ ?_
      rotate_left
      · (intro w hSw; (try dsimp only at hSw); go_simp; try with_reducible rfl)
      try simp only [Act.put, List.setIfInBounds_toArray, List.set_cons_zero, List.set_cons_succ]
      refine wpAnyH_done (by kernel_rfl) ?_ _
      go_wp2_with fail
      go_ret
      exact ⟨by rw [← HE.out]; rfl, hHeld.1.1.1.1⟩
    · skip
      go_simp
      go_at_call 47
      refine (number_int n V1).mono ?_
      rintro en V4 ⟨rfl, c9⟩
      go_wp2_with fail
      refine hK.out _ _ (⟨⟨⟨(hHeld.1.1.1).trans ((c9).mono (hHeld.1.1.1).size), cell_later c9 hHeld.1.1.2⟩, cell_later c9 hHeld.1.2⟩, cell_later c9 hHeld.2⟩) (fun hHeld => ?_)
      clear c9
      clear hK K
      try simp only [Act.put, List.setIfInBounds_toArray, List.set_cons_zero, List.set_cons_succ]
      refine wpAnyH_ready (rs := [6]) (by kernel_rfl) (by simp) ?_
      refine (AllReadyH.cons (o := _) rfl (fun K hK => ?_) AllReadyH.nil)
      go_simp
      have hB9 : Below V4.heap.size V4 (V4.alloc (.cells #[.int .u8 (k % 256)] 5)) := (Below.refl _ _).alloc (Nat.le_refl _) _
      have hc9 : (V4.alloc (.cells #[.int .u8 (k % 256)] 5)).cell? ⟨V4.heap.size, 0, none⟩ = some (.int .u8 (k % 256)) := by simp
      refine hK.out _ _ (⟨⟨⟨(hHeld.1.1.1).trans ((hB9).mono (hHeld.1.1.1).size), cell_later hB9 hHeld.1.1.2⟩, cell_later hB9 hHeld.1.2⟩, cell_later hB9 hHeld.2⟩) (fun hHeld => ?_)
      generalize hg9 : V4.heap.size = g5 at *
      generalize hV9 : V4.alloc (.cells #[.int .u8 (k % 256)] 5) = V5 at *
      refine held_mono (S' := fun W => ((((Below w.heap.size w W) ∧ W.cell? ⟨w.heap.size, 0, none⟩ = some (.string p)) ∧ W.cell? ⟨w.heap.size, 1, none⟩ = some (.int .i64 k)) ∧ W.cell? ⟨w.heap.size, 2, none⟩ = some (.int .i64 n)) ∧ W.cell? ⟨g5, 0, none⟩ = some (.int .u8 (k % 256))) (fun _ h => h.1) ?_
      replace hHeld : (fun W => ((((Below w.heap.size w W) ∧ W.cell? ⟨w.heap.size, 0, none⟩ = some (.string p)) ∧ W.cell? ⟨w.heap.size, 1, none⟩ = some (.int .i64 k)) ∧ W.cell? ⟨w.heap.size, 2, none⟩ = some (.int .i64 n)) ∧ W.cell? ⟨g5, 0, none⟩ = some (.int .u8 (k % 256))) V5 := ⟨hHeld, hc9⟩
      clear hB9 hc9 hg9 hV9
      clear hK K
      try simp only [Act.put, List.setIfInBounds_toArray, List.set_cons_zero, List.set_cons_succ]
      refine take_yes (i := 7) (d := (some 10)) (v := ?_) rfl (by kernel_rfl) (by kernel_rfl) (by kernel_rfl) rfl (fun _ _ _ h => h) (by rfl) (by assumption) ?_ ?_
      rotate_left
      · (intro w hSw; (try dsimp only at hSw); have hq9 := one_at hSw.2 (by omega) (by omega); go_simp; try with_reducible rfl)
      try simp only [Act.put, List.setIfInBounds_toArray, List.set_cons_zero, List.set_cons_succ]
      refine take_yes (i := 8) (d := (some 11)) (v := ?_) rfl (by kernel_rfl) (by kernel_rfl) (by kernel_rfl) rfl (fun _ _ _ h => h) (by rfl) (by assumption) ?_ ?_
      rotate_left
      · (intro w hSw; (try dsimp only at hSw); go_simp; try with_reducible rfl)
      try simp only [Act.put, List.setIfInBounds_toArray, List.set_cons_zero, List.set_cons_succ]
      refine take_yes (i := 12) (d := (some 15)) (v := ?_) rfl (by kernel_rfl) (by kernel_rfl) (by kernel_rfl) rfl (fun _ _ _ h => h) (by rfl) (by assumption) ?_ ?_
      rotate_left
      · (intro w hSw; (try dsimp only at hSw); go_simp; try with_reducible rfl)
      try simp only [Act.put, List.setIfInBounds_toArray, List.set_cons_zero, List.set_cons_succ]
      refine take_yes (i := 13) (d := (some 2)) (v := ?_) rfl (by kernel_rfl) (by kernel_rfl) (by kernel_rfl) rfl (fun _ _ _ h => h) (by rfl) (by assumption) ?_ ?_
      rotate_left
      · (intro w hSw; (try dsimp only at hSw); go_simp; try with_reducible rfl)
      try simp only [Act.put, List.setIfInBounds_toArray, List.set_cons_zero, List.set_cons_succ]
      refine wpAnyH_done (by kernel_rfl) ?_ _
      go_wp2_with fail
      go_ret
      exact ⟨by rw [← HE.out]; rfl, hHeld.1.1.1.1⟩
  · skip
    go_simp
    have hB9 : Below V0.heap.size V0 (V0.alloc (.cells #[.int .u8 (k % 256)] 5)) := (Below.refl _ _).alloc (Nat.le_refl _) _
    have hc9 : (V0.alloc (.cells #[.int .u8 (k % 256)] 5)).cell? ⟨V0.heap.size, 0, none⟩ = some (.int .u8 (k % 256)) := by simp
    refine hK.out _ _ (⟨⟨⟨(hHeld.1.1.1).trans ((hB9).mono (hHeld.1.1.1).size), cell_later hB9 hHeld.1.1.2⟩, cell_later hB9 hHeld.1.2⟩, cell_later hB9 hHeld.2⟩) (fun hHeld => ?_)
    generalize hg9 : V0.heap.size = g6 at *
    generalize hV9 : V0.alloc (.cells #[.int .u8 (k % 256)] 5) = V6 at *
    refine held_mono (S' := fun W => ((((Below w.heap.size w W) ∧ W.cell? ⟨w.heap.size, 0, none⟩ = some (.string p)) ∧ W.cell? ⟨w.heap.size, 1, none⟩ = some (.int .i64 k)) ∧ W.cell? ⟨w.heap.size, 2, none⟩ = some (.int .i64 n)) ∧ W.cell? ⟨g6, 0, none⟩ = some (.int .u8 (k % 256))) (fun _ h => h.1) ?_
    replace hHeld : (fun W => ((((Below w.heap.size w W) ∧ W.cell? ⟨w.heap.size, 0, none⟩ = some (.string p)) ∧ W.cell? ⟨w.heap.size, 1, none⟩ = some (.int .i64 k)) ∧ W.cell? ⟨w.heap.size, 2, none⟩ = some (.int .i64 n)) ∧ W.cell? ⟨g6, 0, none⟩ = some (.int .u8 (k % 256))) V6 := ⟨hHeld, hc9⟩
    clear hB9 hc9 hg9 hV9
    clear hK K
    try simp only [Act.put, List.setIfInBounds_toArray, List.set_cons_zero, List.set_cons_succ]
    refine take_yes (i := 7) (d := (some 10)) (v := ?_) rfl (by kernel_rfl) (by kernel_rfl) (by kernel_rfl) rfl (fun _ _ _ h => h) (by rfl) (by assumption) ?_ ?_
    rotate_left
    · (intro w hSw; (try dsimp only at hSw); have hq9 := one_at hSw.2 (by omega) (by omega); go_simp; try with_reducible rfl)
    try simp only [Act.put, List.setIfInBounds_toArray, List.set_cons_zero, List.set_cons_succ]
    refine wpAnyH_ready (rs := [2]) (by kernel_rfl) (by simp) ?_
    refine (AllReadyH.cons (o := _) rfl (fun K hK => ?_) AllReadyH.nil)
    go_simp
    go_at_call 37
    refine (text_any p V6 (by omega)).mono ?_
    rintro en V7 ⟨rfl, c9⟩
    go_wp2_with fail
    refine hK.out _ _ (⟨⟨⟨⟨(hHeld.1.1.1.1).trans ((c9).mono (hHeld.1.1.1.1).size), cell_later c9 hHeld.1.1.1.2⟩, cell_later c9 hHeld.1.1.2⟩, cell_later c9 hHeld.1.2⟩, cell_later c9 hHeld.2⟩) (fun hHeld => ?_)
    clear c9
    clear hK K
    try simp only [Act.put, List.setIfInBounds_toArray, List.set_cons_zero, List.set_cons_succ]
    refine take_yes (i := 8) (d := (some 11)) (v := ?_) rfl (by kernel_rfl) (by kernel_rfl) (by kernel_rfl) rfl (fun _ _ _ h => h) (by rfl) (by assumption) ?_ ?_
    rotate_left
    · (intro w hSw; (try dsimp only at hSw); go_simp; try with_reducible rfl)
    try simp only [Act.put, List.setIfInBounds_toArray, List.set_cons_zero, List.set_cons_succ]
    refine wpAnyH_ready (rs := [11]) (by kernel_rfl) (by simp) ?_
    refine (AllReadyH.cons (o := _) rfl (fun K hK => ?_) AllReadyH.nil)
    go_simp
    go_at_call 47
    refine (number_int n V7).mono ?_
    rintro en V8 ⟨rfl, c9⟩
    go_wp2_with fail
    refine hK.out _ _ (⟨⟨⟨⟨(hHeld.1.1.1.1).trans ((c9).mono (hHeld.1.1.1.1).size), cell_later c9 hHeld.1.1.1.2⟩, cell_later c9 hHeld.1.1.2⟩, cell_later c9 hHeld.1.2⟩, cell_later c9 hHeld.2⟩) (fun hHeld => ?_)
    clear c9
    clear hK K
    try simp only [Act.put, List.setIfInBounds_toArray, List.set_cons_zero, List.set_cons_succ]
    refine take_yes (i := 12) (d := (some 15)) (v := ?_) rfl (by kernel_rfl) (by kernel_rfl) (by kernel_rfl) rfl (fun _ _ _ h => h) (by rfl) (by assumption) ?_ ?_
    rotate_left
    · (intro w hSw; (try dsimp only at hSw); go_simp; try with_reducible rfl)
    try simp only [Act.put, List.setIfInBounds_toArray, List.set_cons_zero, List.set_cons_succ]
    refine take_yes (i := 13) (d := (some 2)) (v := ?_) rfl (by kernel_rfl) (by kernel_rfl) (by kernel_rfl) rfl (fun _ _ _ h => h) (by rfl) (by assumption) ?_ ?_
    rotate_left
    · (intro w hSw; (try dsimp only at hSw); go_simp; try with_reducible rfl)
    try simp only [Act.put, List.setIfInBounds_toArray, List.set_cons_zero, List.set_cons_succ]
    refine wpAnyH_done (by kernel_rfl) ?_ _
    go_wp2_with fail
    go_ret
    exact ⟨by rw [← HE.out]; rfl, hHeld.1.1.1.1⟩
set_option maxRecDepth 100000 in
set_option maxHeartbeats 4000000 in
theorem data_any (n : Int) (p : ByteArray) (w : World) (hn : (Lit.int .i64 n).wf = true) (hp : p.size ≤ 140737488355328) :
    Calls Tryz.prog 62 #[.agg #[.int .i64 n, .string p]] w fun e w' => e = .returned (.string (bs (dataL ⟨n, p⟩))) ∧ Below w.heap.size w w' := by
  have HE := Lib.hid (show (⟨#[0]⟩ : ByteArray) ++ bs (constL 127 n) ++ bs (strL p) = bs (dataL ⟨n, p⟩) by rw [show (⟨#[0]⟩ : ByteArray) = bs [0] from rfl, bs_app, bs_app, List.append_assoc]; rfl)
  have h2 : (bs (constL 127 n)).size ≤ 12 := by rw [bs_size]; exact const_len hn
  have h3 : (bs (strL p)).size ≤ 10 + p.size := by rw [bs_size]; exact str_len p
  have hz2 : ¬ 9223372036854775807 < 1 + (bs (constL 127 n)).size := by omega
  have hz3 : ¬ 9223372036854775807 < 1 + (bs (constL 127 n)).size + (bs (strL p)).size := by omega
  clear h2 h3
  obtain ⟨W1, hW1⟩ : ∃ W1, w.alloc (.cells #[.int .i64 n, .string p] 92) = W1 := ⟨_, rfl⟩
  have B1 : Below w.heap.size w W1 := by rw [← hW1]; exact (Below.refl _ _).alloc (Nat.le_refl _) _
  have BB := Lib.hid B1
  have q0 : W1.cell? ⟨w.heap.size, 0, none⟩ = some (.int .i64 n) := by rw [← hW1]; simp
  have q1 : W1.cell? ⟨w.heap.size, 1, none⟩ = some (.string p) := by rw [← hW1]; simp
  have HW := Lib.hid hW1
  clear hW1 B1
  go_enter Tryz.func62, Tryz.ntmps62
  go_upto_region 1 with fail
  rw [HW.out]
  refine wp_region_held_drew (S := fun W => ((Below w.heap.size w W) ∧ W.cell? ⟨w.heap.size, 0, none⟩ = some (.int .i64 n)) ∧ W.cell? ⟨w.heap.size, 1, none⟩ = some (.string p)) (by kernel_rfl) ⟨⟨BB.out.drew, q0⟩, q1⟩ (fun hHeld => ?_)
  obtain ⟨V0, hV0⟩ : ∃ V, W1.drew = V := ⟨_, rfl⟩
  rw [hV0] at hHeld ⊢
  clear hV0 q0 q1
  refine take_yes (i := 0) (d := (some 3)) (v := ?_) rfl (by kernel_rfl) (by kernel_rfl) (by kernel_rfl) rfl (fun _ _ _ h => h) (by rfl) (by assumption) ?_ ?_
  rotate_left
  · (intro w hSw; (try dsimp only at hSw); go_simp; try with_reducible rfl)
  try simp only [Act.put, List.setIfInBounds_toArray, List.set_cons_zero, List.set_cons_succ]
  refine take_yes (i := 1) (d := (some 4)) (v := ?_) rfl (by kernel_rfl) (by kernel_rfl) (by kernel_rfl) rfl (fun _ _ _ h => h) (by rfl) (by assumption) ?_ ?_
  rotate_left
  · (intro w hSw; (try dsimp only at hSw); go_simp; try with_reducible rfl)
  try simp only [Act.put, List.setIfInBounds_toArray, List.set_cons_zero, List.set_cons_succ]
  refine take_yes (i := 4) (d := (some 7)) (v := ?_) rfl (by kernel_rfl) (by kernel_rfl) (by kernel_rfl) rfl (fun _ _ _ h => h) (by rfl) (by assumption) ?_ ?_
  rotate_left
  · (intro w hSw; (try dsimp only at hSw); go_simp; try with_reducible rfl)
  try simp only [Act.put, List.setIfInBounds_toArray, List.set_cons_zero, List.set_cons_succ]
  refine take_yes (i := 5) (d := (some 8)) (v := ?_) rfl (by kernel_rfl) (by kernel_rfl) (by kernel_rfl) rfl (fun _ _ _ h => h) (by rfl) (by assumption) ?_ ?_
  rotate_left
  · (intro w hSw; (try dsimp only at hSw); go_simp; try with_reducible rfl)
  try simp only [Act.put, List.setIfInBounds_toArray, List.set_cons_zero, List.set_cons_succ]
  refine wpAnyH_ready (rs := [2]) (by kernel_rfl) (by simp) ?_
  refine (AllReadyH.cons (o := _) rfl (fun K hK => ?_) AllReadyH.nil)
  go_simp
  go_at_call 54
  refine (const_any 127 n V0 hn).mono ?_
  rintro en V1 ⟨rfl, c9⟩
  go_wp2_with fail
  refine hK.out _ _ (⟨⟨(hHeld.1.1).trans ((c9).mono (hHeld.1.1).size), cell_later c9 hHeld.1.2⟩, cell_later c9 hHeld.2⟩) (fun hHeld => ?_)
  clear c9
  clear hK K
  try simp only [Act.put, List.setIfInBounds_toArray, List.set_cons_zero, List.set_cons_succ]
  refine take_yes (i := 3) (d := (some 6)) (v := ?_) rfl (by kernel_rfl) (by kernel_rfl) (by kernel_rfl) rfl (fun _ _ _ h => h) (by rfl) (by assumption) ?_ ?_
  rotate_left
  · (intro w hSw; (try dsimp only at hSw); go_simp; try with_reducible rfl)
  try simp only [Act.put, List.setIfInBounds_toArray, List.set_cons_zero, List.set_cons_succ]
  refine wpAnyH_ready (rs := [6]) (by kernel_rfl) (by simp) ?_
  refine (AllReadyH.cons (o := _) rfl (fun K hK => ?_) AllReadyH.nil)
  go_simp
  go_at_call 37
  refine (text_any p V1 (by omega)).mono ?_
  rintro en V2 ⟨rfl, c9⟩
  go_wp2_with fail
  refine hK.out _ _ (⟨⟨(hHeld.1.1).trans ((c9).mono (hHeld.1.1).size), cell_later c9 hHeld.1.2⟩, cell_later c9 hHeld.2⟩) (fun hHeld => ?_)
  clear c9
  clear hK K
  try simp only [Act.put, List.setIfInBounds_toArray, List.set_cons_zero, List.set_cons_succ]
  refine take_yes (i := 7) (d := (some 10)) (v := ?_) rfl (by kernel_rfl) (by kernel_rfl) (by kernel_rfl) rfl (fun _ _ _ h => h) (by rfl) (by assumption) ?_ ?_
  rotate_left
  · (intro w hSw; (try dsimp only at hSw); go_simp; try with_reducible rfl)
  try simp only [Act.put, List.setIfInBounds_toArray, List.set_cons_zero, List.set_cons_succ]
  refine take_yes (i := 8) (d := (some 2)) (v := ?_) rfl (by kernel_rfl) (by kernel_rfl) (by kernel_rfl) rfl (fun _ _ _ h => h) (by rfl) (by assumption) ?_ ?_
  rotate_left
  · (intro w hSw; (try dsimp only at hSw); go_simp; try with_reducible rfl)
  try simp only [Act.put, List.setIfInBounds_toArray, List.set_cons_zero, List.set_cons_succ]
  refine wpAnyH_done (by kernel_rfl) ?_ _
  go_wp2_with fail
  go_ret
  exact ⟨by rw [← HE.out]; rfl, hHeld.1.1⟩
set_option maxRecDepth 100000 in
set_option maxHeartbeats 4000000 in
theorem run_any (n : Int) (k : UInt8) (w : World) :
    Calls Tryz.prog 135 #[.agg #[.int .i64 n, .int .u8 (k.toNat : Int)]] w fun e w' => e = .returned (.string (bs (numL n ++ [k]))) ∧ Below w.heap.size w w' := by
  have HE := Lib.hid (show bs (numL n) ++ bs [byteOf (k.toNat : Int)] = bs (numL n ++ [k]) by rw [bs_app, byteOf_self])
  have h1 : (bs [byteOf (k.toNat : Int)]).size = 1 := rfl
  have h3 : (bs (numL n)).size ≤ 10 := by rw [bs_size]; exact num_len n
  have hz2 : ¬ 9223372036854775807 < (bs (numL n)).size + (bs [byteOf (k.toNat : Int)]).size := by omega
  clear h1 h3
  obtain ⟨W1, hW1⟩ : ∃ W1, w.alloc (.cells #[.int .i64 n, .int .u8 (k.toNat : Int)] 195) = W1 := ⟨_, rfl⟩
  have B1 : Below w.heap.size w W1 := by rw [← hW1]; exact (Below.refl _ _).alloc (Nat.le_refl _) _
  have BB := Lib.hid B1
  have q0 : W1.cell? ⟨w.heap.size, 0, none⟩ = some (.int .i64 n) := by rw [← hW1]; simp
  have q1 : W1.cell? ⟨w.heap.size, 1, none⟩ = some (.int .u8 (k.toNat : Int)) := by rw [← hW1]; simp
  have HW := Lib.hid hW1
  clear hW1 B1
  go_enter Tryz.func135, Tryz.ntmps135
  go_upto_region 1 with fail
  rw [HW.out]
  refine wp_region_held_drew (S := fun W => ((Below w.heap.size w W) ∧ W.cell? ⟨w.heap.size, 0, none⟩ = some (.int .i64 n)) ∧ W.cell? ⟨w.heap.size, 1, none⟩ = some (.int .u8 (k.toNat : Int))) (by kernel_rfl) ⟨⟨BB.out.drew, q0⟩, q1⟩ (fun hHeld => ?_)
  obtain ⟨V0, hV0⟩ : ∃ V, W1.drew = V := ⟨_, rfl⟩
  rw [hV0] at hHeld ⊢
  clear hV0 q0 q1
  refine take_yes (i := 0) (d := (some 3)) (v := ?_) rfl (by kernel_rfl) (by kernel_rfl) (by kernel_rfl) rfl (fun _ _ _ h => h) (by rfl) (by assumption) ?_ ?_
  rotate_left
  · (intro w hSw; (try dsimp only at hSw); go_simp; try with_reducible rfl)
  try simp only [Act.put, List.setIfInBounds_toArray, List.set_cons_zero, List.set_cons_succ]
  refine take_yes (i := 1) (d := (some 4)) (v := ?_) rfl (by kernel_rfl) (by kernel_rfl) (by kernel_rfl) rfl (fun _ _ _ h => h) (by rfl) (by assumption) ?_ ?_
  rotate_left
  · (intro w hSw; (try dsimp only at hSw); go_simp; try with_reducible rfl)
  try simp only [Act.put, List.setIfInBounds_toArray, List.set_cons_zero, List.set_cons_succ]
  refine take_yes (i := 3) (d := (some 6)) (v := ?_) rfl (by kernel_rfl) (by kernel_rfl) (by kernel_rfl) rfl (fun _ _ _ h => h) (by rfl) (by assumption) ?_ ?_
  rotate_left
  · (intro w hSw; (try dsimp only at hSw); go_simp; try with_reducible rfl)
  try simp only [Act.put, List.setIfInBounds_toArray, List.set_cons_zero, List.set_cons_succ]
  refine take_yes (i := 4) (d := (some 7)) (v := ?_) rfl (by kernel_rfl) (by kernel_rfl) (by kernel_rfl) rfl (fun _ _ _ h => h) (by rfl) (by assumption) ?_ ?_
  rotate_left
  · (intro w hSw; (try dsimp only at hSw); go_simp; try with_reducible rfl)
  try simp only [Act.put, List.setIfInBounds_toArray, List.set_cons_zero, List.set_cons_succ]
  refine wpAnyH_ready (rs := [2, 5]) (by kernel_rfl) (by simp) ?_
  refine (AllReadyH.cons (o := _) rfl (fun K hK => ?_) (AllReadyH.cons (o := _) rfl (fun K hK => ?_) AllReadyH.nil))
  · skip
    go_simp
    go_at_call 47
    refine (number_int n V0).mono ?_
    rintro en V1 ⟨rfl, c9⟩
    go_wp2_with fail
    refine hK.out _ _ (⟨⟨(hHeld.1.1).trans ((c9).mono (hHeld.1.1).size), cell_later c9 hHeld.1.2⟩, cell_later c9 hHeld.2⟩) (fun hHeld => ?_)
    clear c9
    clear hK K
    try simp only [Act.put, List.setIfInBounds_toArray, List.set_cons_zero, List.set_cons_succ]
    refine wpAnyH_ready (rs := [5]) (by kernel_rfl) (by simp) ?_
    refine (AllReadyH.cons (o := _) rfl (fun K hK => ?_) AllReadyH.nil)
    go_simp
    have hB9 : Below V1.heap.size V1 (V1.alloc (.cells #[.int .u8 ((k.toNat : Int))] 5)) := (Below.refl _ _).alloc (Nat.le_refl _) _
    have hc9 : (V1.alloc (.cells #[.int .u8 ((k.toNat : Int))] 5)).cell? ⟨V1.heap.size, 0, none⟩ = some (.int .u8 ((k.toNat : Int))) := by simp
    refine hK.out _ _ (⟨⟨(hHeld.1.1).trans ((hB9).mono (hHeld.1.1).size), cell_later hB9 hHeld.1.2⟩, cell_later hB9 hHeld.2⟩) (fun hHeld => ?_)
    generalize hg9 : V1.heap.size = g2 at *
    generalize hV9 : V1.alloc (.cells #[.int .u8 ((k.toNat : Int))] 5) = V2 at *
    refine held_mono (S' := fun W => (((Below w.heap.size w W) ∧ W.cell? ⟨w.heap.size, 0, none⟩ = some (.int .i64 n)) ∧ W.cell? ⟨w.heap.size, 1, none⟩ = some (.int .u8 (k.toNat : Int))) ∧ W.cell? ⟨g2, 0, none⟩ = some (.int .u8 ((k.toNat : Int)))) (fun _ h => h.1) ?_
    replace hHeld : (fun W => (((Below w.heap.size w W) ∧ W.cell? ⟨w.heap.size, 0, none⟩ = some (.int .i64 n)) ∧ W.cell? ⟨w.heap.size, 1, none⟩ = some (.int .u8 (k.toNat : Int))) ∧ W.cell? ⟨g2, 0, none⟩ = some (.int .u8 ((k.toNat : Int)))) V2 := ⟨hHeld, hc9⟩
    clear hB9 hc9 hg9 hV9
    clear hK K
    try simp only [Act.put, List.setIfInBounds_toArray, List.set_cons_zero, List.set_cons_succ]
    refine take_yes (i := 6) (d := (some 9)) (v := ?_) rfl (by kernel_rfl) (by kernel_rfl) (by kernel_rfl) rfl (fun _ _ _ h => h) (by rfl) (by assumption) ?_ ?_
    rotate_left
    · (intro w hSw; (try dsimp only at hSw); have hq9 := one_at hSw.2 (by omega) (by have := k.toNat_lt; omega); go_simp; try with_reducible rfl)
    try simp only [Act.put, List.setIfInBounds_toArray, List.set_cons_zero, List.set_cons_succ]
    refine take_yes (i := 7) (d := (some 10)) (v := ?_) rfl (by kernel_rfl) (by kernel_rfl) (by kernel_rfl) rfl (fun _ _ _ h => h) (by rfl) (by assumption) ?_ ?_
    rotate_left
    · (intro w hSw; (try dsimp only at hSw); go_simp; try with_reducible rfl)
    try simp only [Act.put, List.setIfInBounds_toArray, List.set_cons_zero, List.set_cons_succ]
    refine take_yes (i := 8) (d := (some 2)) (v := ?_) rfl (by kernel_rfl) (by kernel_rfl) (by kernel_rfl) rfl (fun _ _ _ h => h) (by rfl) (by assumption) ?_ ?_
    rotate_left
    · (intro w hSw; (try dsimp only at hSw); go_simp; try with_reducible rfl)
    try simp only [Act.put, List.setIfInBounds_toArray, List.set_cons_zero, List.set_cons_succ]
    refine wpAnyH_done (by kernel_rfl) ?_ _
    go_wp2_with fail
    go_ret
    exact ⟨by rw [← HE.out]; rfl, hHeld.1.1.1⟩
  · skip
    go_simp
    have hB9 : Below V0.heap.size V0 (V0.alloc (.cells #[.int .u8 ((k.toNat : Int))] 5)) := (Below.refl _ _).alloc (Nat.le_refl _) _
    have hc9 : (V0.alloc (.cells #[.int .u8 ((k.toNat : Int))] 5)).cell? ⟨V0.heap.size, 0, none⟩ = some (.int .u8 ((k.toNat : Int))) := by simp
    refine hK.out _ _ (⟨⟨(hHeld.1.1).trans ((hB9).mono (hHeld.1.1).size), cell_later hB9 hHeld.1.2⟩, cell_later hB9 hHeld.2⟩) (fun hHeld => ?_)
    generalize hg9 : V0.heap.size = g3 at *
    generalize hV9 : V0.alloc (.cells #[.int .u8 ((k.toNat : Int))] 5) = V3 at *
    refine held_mono (S' := fun W => (((Below w.heap.size w W) ∧ W.cell? ⟨w.heap.size, 0, none⟩ = some (.int .i64 n)) ∧ W.cell? ⟨w.heap.size, 1, none⟩ = some (.int .u8 (k.toNat : Int))) ∧ W.cell? ⟨g3, 0, none⟩ = some (.int .u8 ((k.toNat : Int)))) (fun _ h => h.1) ?_
    replace hHeld : (fun W => (((Below w.heap.size w W) ∧ W.cell? ⟨w.heap.size, 0, none⟩ = some (.int .i64 n)) ∧ W.cell? ⟨w.heap.size, 1, none⟩ = some (.int .u8 (k.toNat : Int))) ∧ W.cell? ⟨g3, 0, none⟩ = some (.int .u8 ((k.toNat : Int)))) V3 := ⟨hHeld, hc9⟩
    clear hB9 hc9 hg9 hV9
    clear hK K
    try simp only [Act.put, List.setIfInBounds_toArray, List.set_cons_zero, List.set_cons_succ]
    refine take_yes (i := 6) (d := (some 9)) (v := ?_) rfl (by kernel_rfl) (by kernel_rfl) (by kernel_rfl) rfl (fun _ _ _ h => h) (by rfl) (by assumption) ?_ ?_
    rotate_left
    · (intro w hSw; (try dsimp only at hSw); have hq9 := one_at hSw.2 (by omega) (by have := k.toNat_lt; omega); go_simp; try with_reducible rfl)
    try simp only [Act.put, List.setIfInBounds_toArray, List.set_cons_zero, List.set_cons_succ]
    refine wpAnyH_ready (rs := [2]) (by kernel_rfl) (by simp) ?_
    refine (AllReadyH.cons (o := _) rfl (fun K hK => ?_) AllReadyH.nil)
    go_simp
    go_at_call 47
    refine (number_int n V3).mono ?_
    rintro en V4 ⟨rfl, c9⟩
    go_wp2_with fail
    refine hK.out _ _ (⟨⟨⟨(hHeld.1.1.1).trans ((c9).mono (hHeld.1.1.1).size), cell_later c9 hHeld.1.1.2⟩, cell_later c9 hHeld.1.2⟩, cell_later c9 hHeld.2⟩) (fun hHeld => ?_)
    clear c9
    clear hK K
    try simp only [Act.put, List.setIfInBounds_toArray, List.set_cons_zero, List.set_cons_succ]
    refine take_yes (i := 7) (d := (some 10)) (v := ?_) rfl (by kernel_rfl) (by kernel_rfl) (by kernel_rfl) rfl (fun _ _ _ h => h) (by rfl) (by assumption) ?_ ?_
    rotate_left
    · (intro w hSw; (try dsimp only at hSw); go_simp; try with_reducible rfl)
    try simp only [Act.put, List.setIfInBounds_toArray, List.set_cons_zero, List.set_cons_succ]
    refine take_yes (i := 8) (d := (some 2)) (v := ?_) rfl (by kernel_rfl) (by kernel_rfl) (by kernel_rfl) rfl (fun _ _ _ h => h) (by rfl) (by assumption) ?_ ?_
    rotate_left
    · (intro w hSw; (try dsimp only at hSw); go_simp; try with_reducible rfl)
    try simp only [Act.put, List.setIfInBounds_toArray, List.set_cons_zero, List.set_cons_succ]
    refine wpAnyH_done (by kernel_rfl) ?_ _
    go_wp2_with fail
    go_ret
    exact ⟨by rw [← HE.out]; rfl, hHeld.1.1.1⟩
set_option maxRecDepth 100000 in
set_option maxHeartbeats 4000000 in
theorem mem_yes (a b : Int) (w : World) (hb : b ≠ -1) :
    Calls Tryz.prog 50 #[.agg #[.int .i64 a, .int .i64 b]] w fun e w' => e = .returned (.string (bs (memL ⟨a, b⟩))) ∧ Below w.heap.size w w' := by
  have HE := Lib.hid (show (⟨#[1]⟩ : ByteArray) ++ bs (numL a) ++ bs (numL b) = bs (memL ⟨a, b⟩) by rw [show (⟨#[1]⟩ : ByteArray) = bs [1] from rfl, bs_app, bs_app, List.append_assoc]; unfold memL; rw [if_neg (show ¬ (⟨a, b⟩ : MemP).most = -1 from hb)]; rfl)
  have h2 : (bs (numL a)).size ≤ 10 := by rw [bs_size]; exact num_len a
  have h3 : (bs (numL b)).size ≤ 10 := by rw [bs_size]; exact num_len b
  have hz2 : ¬ 9223372036854775807 < 1 + (bs (numL a)).size := by omega
  have hz3 : ¬ 9223372036854775807 < 1 + (bs (numL a)).size + (bs (numL b)).size := by omega
  have hbb : (b == -1) = false := by rw [beq_eq_false_iff_ne]; exact hb
  clear h2 h3 hb
  obtain ⟨W1, hW1⟩ : ∃ W1, w.alloc (.cells #[.int .i64 a, .int .i64 b] 86) = W1 := ⟨_, rfl⟩
  have B1 : Below w.heap.size w W1 := by rw [← hW1]; exact (Below.refl _ _).alloc (Nat.le_refl _) _
  have BB := Lib.hid B1
  have q0 : W1.cell? ⟨w.heap.size, 0, none⟩ = some (.int .i64 a) := by rw [← hW1]; simp
  have q1 : W1.cell? ⟨w.heap.size, 1, none⟩ = some (.int .i64 b) := by rw [← hW1]; simp
  have HW := Lib.hid hW1
  clear hW1 B1
  go_enter Tryz.func50, Tryz.ntmps50
  go_upto_region 1 with fail
  rw [HW.out]
  go_upto_region 3 with fail
  refine wp_region_held_drew (S := fun W => ((Below w.heap.size w W) ∧ W.cell? ⟨w.heap.size, 0, none⟩ = some (.int .i64 a)) ∧ W.cell? ⟨w.heap.size, 1, none⟩ = some (.int .i64 b)) (by kernel_rfl) ⟨⟨BB.out.drew, q0⟩, q1⟩ (fun hHeld => ?_)
  obtain ⟨V0, hV0⟩ : ∃ V, W1.drew = V := ⟨_, rfl⟩
  rw [hV0] at hHeld ⊢
  clear hV0 q0 q1
  refine take_yes (i := 0) (d := (some 10)) (v := ?_) rfl (by kernel_rfl) (by kernel_rfl) (by kernel_rfl) rfl (fun _ _ _ h => h) (by rfl) (by assumption) ?_ ?_
  rotate_left
  · (intro w hSw; (try dsimp only at hSw); go_simp; try with_reducible rfl)
  try simp only [Act.put, List.setIfInBounds_toArray, List.set_cons_zero, List.set_cons_succ]
  refine take_yes (i := 1) (d := (some 11)) (v := ?_) rfl (by kernel_rfl) (by kernel_rfl) (by kernel_rfl) rfl (fun _ _ _ h => h) (by rfl) (by assumption) ?_ ?_
  rotate_left
  · (intro w hSw; (try dsimp only at hSw); go_simp; try with_reducible rfl)
  try simp only [Act.put, List.setIfInBounds_toArray, List.set_cons_zero, List.set_cons_succ]
  refine take_yes (i := 4) (d := (some 14)) (v := ?_) rfl (by kernel_rfl) (by kernel_rfl) (by kernel_rfl) rfl (fun _ _ _ h => h) (by rfl) (by assumption) ?_ ?_
  rotate_left
  · (intro w hSw; (try dsimp only at hSw); go_simp; try with_reducible rfl)
  try simp only [Act.put, List.setIfInBounds_toArray, List.set_cons_zero, List.set_cons_succ]
  refine take_yes (i := 5) (d := (some 15)) (v := ?_) rfl (by kernel_rfl) (by kernel_rfl) (by kernel_rfl) rfl (fun _ _ _ h => h) (by rfl) (by assumption) ?_ ?_
  rotate_left
  · (intro w hSw; (try dsimp only at hSw); go_simp; try with_reducible rfl)
  try simp only [Act.put, List.setIfInBounds_toArray, List.set_cons_zero, List.set_cons_succ]
  refine wpAnyH_ready (rs := [2]) (by kernel_rfl) (by simp) ?_
  refine (AllReadyH.cons (o := _) rfl (fun K hK => ?_) AllReadyH.nil)
  go_simp
  go_at_call 47
  refine (number_int a V0).mono ?_
  rintro en V1 ⟨rfl, c9⟩
  go_wp2_with fail
  refine hK.out _ _ (⟨⟨(hHeld.1.1).trans ((c9).mono (hHeld.1.1).size), cell_later c9 hHeld.1.2⟩, cell_later c9 hHeld.2⟩) (fun hHeld => ?_)
  clear c9
  clear hK K
  try simp only [Act.put, List.setIfInBounds_toArray, List.set_cons_zero, List.set_cons_succ]
  refine take_yes (i := 3) (d := (some 13)) (v := ?_) rfl (by kernel_rfl) (by kernel_rfl) (by kernel_rfl) rfl (fun _ _ _ h => h) (by rfl) (by assumption) ?_ ?_
  rotate_left
  · (intro w hSw; (try dsimp only at hSw); go_simp; try with_reducible rfl)
  try simp only [Act.put, List.setIfInBounds_toArray, List.set_cons_zero, List.set_cons_succ]
  refine wpAnyH_ready (rs := [6]) (by kernel_rfl) (by simp) ?_
  refine (AllReadyH.cons (o := _) rfl (fun K hK => ?_) AllReadyH.nil)
  go_simp
  go_at_call 47
  refine (number_int b V1).mono ?_
  rintro en V2 ⟨rfl, c9⟩
  go_wp2_with fail
  refine hK.out _ _ (⟨⟨(hHeld.1.1).trans ((c9).mono (hHeld.1.1).size), cell_later c9 hHeld.1.2⟩, cell_later c9 hHeld.2⟩) (fun hHeld => ?_)
  clear c9
  clear hK K
  try simp only [Act.put, List.setIfInBounds_toArray, List.set_cons_zero, List.set_cons_succ]
  refine take_yes (i := 7) (d := (some 17)) (v := ?_) rfl (by kernel_rfl) (by kernel_rfl) (by kernel_rfl) rfl (fun _ _ _ h => h) (by rfl) (by assumption) ?_ ?_
  rotate_left
  · (intro w hSw; (try dsimp only at hSw); go_simp; try with_reducible rfl)
  try simp only [Act.put, List.setIfInBounds_toArray, List.set_cons_zero, List.set_cons_succ]
  refine take_yes (i := 8) (d := (some 2)) (v := ?_) rfl (by kernel_rfl) (by kernel_rfl) (by kernel_rfl) rfl (fun _ _ _ h => h) (by rfl) (by assumption) ?_ ?_
  rotate_left
  · (intro w hSw; (try dsimp only at hSw); go_simp; try with_reducible rfl)
  try simp only [Act.put, List.setIfInBounds_toArray, List.set_cons_zero, List.set_cons_succ]
  refine wpAnyH_done (by kernel_rfl) ?_ _
  go_wp2_with fail
  go_ret
  exact ⟨by rw [← HE.out]; rfl, hHeld.1.1⟩
set_option maxRecDepth 100000 in
theorem mem_no (a : Int) (w : World) :
    Calls Tryz.prog 50 #[.agg #[.int .i64 a, .int .i64 (-1)]] w fun e w' => e = .returned (.string (bs (memL ⟨a, -1⟩))) ∧ Below w.heap.size w w' := by
  have HE := Lib.hid (show (⟨#[0]⟩ : ByteArray) ++ bs (numL a) = bs (memL ⟨a, -1⟩) by rw [show (⟨#[0]⟩ : ByteArray) = bs [0] from rfl, bs_app]; unfold memL; rw [if_pos rfl]; rfl)
  have h2 : (bs (numL a)).size ≤ 10 := by rw [bs_size]; exact num_len a
  have hz2 : ¬ 9223372036854775807 < 1 + (bs (numL a)).size := by omega
  have hcall := number_int a (w.alloc (.cells #[.int .i64 a, .int .i64 (-1)] 86))
  have B0 : Below w.heap.size w (w.alloc (.cells #[.int .i64 a, .int .i64 (-1)] 86)) := (Below.refl _ _).alloc (Nat.le_refl _) _
  clear h2
  go_enter Tryz.func50, Tryz.ntmps50
  go_wp2_with fail
  refine hcall.mono ?_
  rintro e w' ⟨rfl, c1⟩
  go_wp2_with fail
  go_ret
  exact ⟨by rw [← HE.out]; rfl, B0.trans (c1.mono B0.size)⟩
theorem mem_any (a b : Int) (w : World) :
    Calls Tryz.prog 50 #[.agg #[.int .i64 a, .int .i64 b]] w fun e w' => e = .returned (.string (bs (memL ⟨a, b⟩))) ∧ Below w.heap.size w w' := by
  by_cases hb : b = -1
  · subst hb; exact mem_no a w
  · exact mem_yes a b w hb
set_option maxRecDepth 100000 in
theorem ty_any (t : Int) (s : ByteArray) (la : Option Addr) (n c : Nat) (w : World) :
    Calls Tryz.prog 46 #[.agg #[.int .i64 t, .string s, .slice la n c]] w fun e w' => e = .returned (.string (bs (numL t))) ∧ Below w.heap.size w w' := by
  have hcall := number_int t (w.alloc (.cells #[.int .i64 t, .string s, .slice la n c] 84))
  have B0 : Below w.heap.size w (w.alloc (.cells #[.int .i64 t, .string s, .slice la n c] 84)) := (Below.refl _ _).alloc (Nat.le_refl _) _
  go_enter Tryz.func46, Tryz.ntmps46
  go_wp2_with fail
  refine hcall.mono ?_
  rintro e w' ⟨rfl, c1⟩
  go_wp2_with fail
  go_ret
  exact ⟨rfl, B0.trans (c1.mono B0.size)⟩
set_option maxRecDepth 100000 in
set_option maxHeartbeats 4000000 in
theorem glob_false (t n : Int) (w : World) (hn : (Lit.int .i64 n).wf = true) :
    Calls Tryz.prog 53 #[.agg #[.int .i64 t, .bool false, .int .i64 n]] w fun e w' => e = .returned (.string (bs (globL ⟨t, false, n⟩))) ∧ Below w.heap.size w w' := by
  have HE := Lib.hid (show bs [byteOf t, 0] ++ bs (constL t n) = bs (globL ⟨t, false, n⟩) by rw [bs_app]; rfl)
  have h1 : (bs [byteOf t, 0]).size = 2 := rfl
  have h2 : (bs (constL t n)).size ≤ 12 := by rw [bs_size]; exact const_len hn
  have hz2 : ¬ 9223372036854775807 < (bs [byteOf t, 0]).size + (bs (constL t n)).size := by omega
  clear h1 h2
  obtain ⟨W1, hW1⟩ : ∃ W1, w.alloc (.cells #[.int .i64 t, .bool false, .int .i64 n] 88) = W1 := ⟨_, rfl⟩
  have B1 : Below w.heap.size w W1 := by rw [← hW1]; exact (Below.refl _ _).alloc (Nat.le_refl _) _
  have BB := Lib.hid B1
  have q0 : W1.cell? ⟨w.heap.size, 0, none⟩ = some (.int .i64 t) := by rw [← hW1]; simp
  have q1 : W1.cell? ⟨w.heap.size, 1, none⟩ = some (.bool false) := by rw [← hW1]; simp
  have q2 : W1.cell? ⟨w.heap.size, 2, none⟩ = some (.int .i64 n) := by rw [← hW1]; simp
  have HW := Lib.hid hW1
  clear hW1 B1
  have z1 : W1.heap.size = w.heap.size + 1 := by rw [← HW.out]; simp
  obtain ⟨W2, hW2⟩ : ∃ W2, W1.alloc (.cells #[.int .u8 (t % 256), .int .u8 0] 5) = W2 := ⟨_, rfl⟩
  have B2 : Below W1.heap.size W1 W2 := by rw [← hW2]; exact (Below.refl _ _).alloc (Nat.le_refl _) _
  have hrow : W2.heap[W1.heap.size]? = some (.cells #[.int .u8 (t % 256), .int .u8 0] 5 (0, 0)) := by rw [← hW2]; exact heap_alloc_new _ _
  have HROW := Lib.hid hrow
  have HB2 := Lib.hid B2
  have BB2 := Lib.hid (BB.out.trans (B2.mono BB.out.size))
  have HW2 := Lib.hid hW2
  have HZ1 := Lib.hid z1
  clear hW2 B2 z1 hrow
  go_enter Tryz.func53, Tryz.ntmps53
  go_upto_region 1 with fail
  rw [HW.out]
  go_upto_region 2 with fail
  rw [HW2.out]
  have q3 := cell_of_row W2 _ 0 _ _ _ HROW.out
  have q4 := cell_of_row W2 _ 1 _ _ _ HROW.out
  replace q0 := cell_later HB2.out q0
  replace q1 := cell_later HB2.out q1
  replace q2 := cell_later HB2.out q2
  go_upto_region 4 with fail
  refine wp_region_held_drew (S := fun W => (((((Below w.heap.size w W) ∧ W.cell? ⟨w.heap.size, 0, none⟩ = some (.int .i64 t)) ∧ W.cell? ⟨w.heap.size, 1, none⟩ = some (.bool false)) ∧ W.cell? ⟨w.heap.size, 2, none⟩ = some (.int .i64 n)) ∧ W.cell? ⟨W1.heap.size, 0, none⟩ = some (.int .u8 (t % 256))) ∧ W.cell? ⟨W1.heap.size, 1, none⟩ = some (.int .u8 0)) (by kernel_rfl) ⟨⟨⟨⟨⟨BB2.out.drew, q0⟩, q1⟩, q2⟩, q3⟩, q4⟩ (fun hHeld => ?_)
  obtain ⟨V0, hV0⟩ : ∃ V, W2.drew = V := ⟨_, rfl⟩
  rw [hV0] at hHeld ⊢
  clear hV0 q0 q1 q2 q3 q4
  refine take_yes (i := 0) (d := (some 12)) (v := ?_) rfl (by kernel_rfl) (by kernel_rfl) (by kernel_rfl) rfl (fun _ _ _ h => h) (by rfl) (by assumption) ?_ ?_
  rotate_left
  · (intro w hSw; (try dsimp only at hSw); go_simp; try with_reducible rfl)
  try simp only [Act.put, List.setIfInBounds_toArray, List.set_cons_zero, List.set_cons_succ]
  refine take_yes (i := 1) (d := (some 13)) (v := ?_) rfl (by kernel_rfl) (by kernel_rfl) (by kernel_rfl) rfl (fun _ _ _ h => h) (by rfl) (by assumption) ?_ ?_
  rotate_left
  · (intro w hSw; (try dsimp only at hSw); have hq9 := two_at (m := 0) hSw.1.2 (by rw [hSw.2]; rfl); go_simp; try with_reducible rfl)
  try simp only [Act.put, List.setIfInBounds_toArray, List.set_cons_zero, List.set_cons_succ]
  refine take_yes (i := 2) (d := (some 14)) (v := ?_) rfl (by kernel_rfl) (by kernel_rfl) (by kernel_rfl) rfl (fun _ _ _ h => h) (by rfl) (by assumption) ?_ ?_
  rotate_left
  · (intro w hSw; (try dsimp only at hSw); go_simp; try with_reducible rfl)
  try simp only [Act.put, List.setIfInBounds_toArray, List.set_cons_zero, List.set_cons_succ]
  refine take_yes (i := 3) (d := (some 15)) (v := ?_) rfl (by kernel_rfl) (by kernel_rfl) (by kernel_rfl) rfl (fun _ _ _ h => h) (by rfl) (by assumption) ?_ ?_
  rotate_left
  · (intro w hSw; (try dsimp only at hSw); go_simp; try with_reducible rfl)
  try simp only [Act.put, List.setIfInBounds_toArray, List.set_cons_zero, List.set_cons_succ]
  refine take_yes (i := 4) (d := (some 16)) (v := ?_) rfl (by kernel_rfl) (by kernel_rfl) (by kernel_rfl) rfl (fun _ _ _ h => h) (by rfl) (by assumption) ?_ ?_
  rotate_left
  · (intro w hSw; (try dsimp only at hSw); go_simp; try with_reducible rfl)
  try simp only [Act.put, List.setIfInBounds_toArray, List.set_cons_zero, List.set_cons_succ]
  refine take_yes (i := 5) (d := (some 17)) (v := ?_) rfl (by kernel_rfl) (by kernel_rfl) (by kernel_rfl) rfl (fun _ _ _ h => h) (by rfl) (by assumption) ?_ ?_
  rotate_left
  · (intro w hSw; (try dsimp only at hSw); go_simp; try with_reducible rfl)
  try simp only [Act.put, List.setIfInBounds_toArray, List.set_cons_zero, List.set_cons_succ]
  refine wpAnyH_ready (rs := [6]) (by kernel_rfl) (by simp) ?_
  refine (AllReadyH.cons (o := _) rfl (fun K hK => ?_) AllReadyH.nil)
  go_simp
  go_at_call 54
  refine (const_any t n V0 hn).mono ?_
  rintro en V1 ⟨rfl, c9⟩
  go_wp2_with fail
  refine hK.out _ _ (⟨⟨⟨⟨⟨(hHeld.1.1.1.1.1).trans ((c9).mono (hHeld.1.1.1.1.1).size), cell_later c9 hHeld.1.1.1.1.2⟩, cell_later c9 hHeld.1.1.1.2⟩, cell_later c9 hHeld.1.1.2⟩, cell_later c9 hHeld.1.2⟩, cell_later c9 hHeld.2⟩) (fun hHeld => ?_)
  clear c9
  clear hK K
  try simp only [Act.put, List.setIfInBounds_toArray, List.set_cons_zero, List.set_cons_succ]
  refine take_yes (i := 7) (d := (some 19)) (v := ?_) rfl (by kernel_rfl) (by kernel_rfl) (by kernel_rfl) rfl (fun _ _ _ h => h) (by rfl) (by assumption) ?_ ?_
  rotate_left
  · (intro w hSw; (try dsimp only at hSw); go_simp; try with_reducible rfl)
  try simp only [Act.put, List.setIfInBounds_toArray, List.set_cons_zero, List.set_cons_succ]
  refine take_yes (i := 8) (d := (some 2)) (v := ?_) rfl (by kernel_rfl) (by kernel_rfl) (by kernel_rfl) rfl (fun _ _ _ h => h) (by rfl) (by assumption) ?_ ?_
  rotate_left
  · (intro w hSw; (try dsimp only at hSw); go_simp; try with_reducible rfl)
  try simp only [Act.put, List.setIfInBounds_toArray, List.set_cons_zero, List.set_cons_succ]
  refine wpAnyH_done (by kernel_rfl) ?_ _
  go_wp2_with fail
  go_ret
  exact ⟨by rw [← HE.out]; rfl, hHeld.1.1.1.1.1⟩
set_option maxRecDepth 100000 in
set_option maxHeartbeats 4000000 in
theorem glob_true (t n : Int) (w : World) (hn : (Lit.int .i64 n).wf = true) :
    Calls Tryz.prog 53 #[.agg #[.int .i64 t, .bool true, .int .i64 n]] w fun e w' => e = .returned (.string (bs (globL ⟨t, true, n⟩))) ∧ Below w.heap.size w w' := by
  have HE := Lib.hid (show bs [byteOf t, 1] ++ bs (constL t n) = bs (globL ⟨t, true, n⟩) by rw [bs_app]; rfl)
  have h1 : (bs [byteOf t, 1]).size = 2 := rfl
  have h2 : (bs (constL t n)).size ≤ 12 := by rw [bs_size]; exact const_len hn
  have hz2 : ¬ 9223372036854775807 < (bs [byteOf t, 1]).size + (bs (constL t n)).size := by omega
  clear h1 h2
  obtain ⟨W1, hW1⟩ : ∃ W1, w.alloc (.cells #[.int .i64 t, .bool true, .int .i64 n] 88) = W1 := ⟨_, rfl⟩
  have B1 : Below w.heap.size w W1 := by rw [← hW1]; exact (Below.refl _ _).alloc (Nat.le_refl _) _
  have BB := Lib.hid B1
  have q0 : W1.cell? ⟨w.heap.size, 0, none⟩ = some (.int .i64 t) := by rw [← hW1]; simp
  have q1 : W1.cell? ⟨w.heap.size, 1, none⟩ = some (.bool true) := by rw [← hW1]; simp
  have q2 : W1.cell? ⟨w.heap.size, 2, none⟩ = some (.int .i64 n) := by rw [← hW1]; simp
  have HW := Lib.hid hW1
  clear hW1 B1
  have z1 : W1.heap.size = w.heap.size + 1 := by rw [← HW.out]; simp
  obtain ⟨W2, hW2⟩ : ∃ W2, W1.alloc (.cells #[.int .u8 (t % 256), .int .u8 0] 5) = W2 := ⟨_, rfl⟩
  have B2 : Below W1.heap.size W1 W2 := by rw [← hW2]; exact (Below.refl _ _).alloc (Nat.le_refl _) _
  have hrow : W2.heap[W1.heap.size]? = some (.cells #[.int .u8 (t % 256), .int .u8 0] 5 (0, 0)) := by rw [← hW2]; exact heap_alloc_new _ _
  have HROW := Lib.hid hrow
  have HB2 := Lib.hid B2
  have BB2 := Lib.hid (BB.out.trans (B2.mono BB.out.size))
  have HW2 := Lib.hid hW2
  have HZ1 := Lib.hid z1
  clear hW2 B2 z1 hrow
  obtain ⟨W3, hW3⟩ : ∃ W3, W2.setCell ⟨W1.heap.size, 1, none⟩ (.int .u8 1) = W3 := ⟨_, rfl⟩
  have hrow3 : W3.heap[W1.heap.size]? = some (.cells #[.int .u8 (t % 256), .int .u8 1] 5 (0, 0)) := by rw [← hW3]; exact box_set HROW.out 1 _
  have B3 : Below W1.heap.size W1 W3 := by rw [← hW3]; exact HB2.out.setCell (p := ⟨W1.heap.size, 1, none⟩) (Nat.le_refl _) _
  have HROW3 := Lib.hid hrow3
  have HB3 := Lib.hid B3
  have BB3 := Lib.hid (BB.out.trans (B3.mono BB.out.size))
  have HW3 := Lib.hid hW3
  clear hW3 B3 hrow3
  go_enter Tryz.func53, Tryz.ntmps53
  go_upto_region 1 with fail
  rw [HW.out]
  go_upto_region 2 with fail
  rw [HW2.out]
  have f1 := frozen_of_row W2 _ 1 _ _ HROW.out
  have r1 := cell_of_row W2 _ 1 _ _ _ HROW.out
  have q1b := cell_later HB2.out q1
  go_upto_region 4 with fail
  rw [HW3.out]
  clear f1 r1 q1b
  have q3 := cell_of_row W3 _ 0 _ _ _ HROW3.out
  have q4 := cell_of_row W3 _ 1 _ _ _ HROW3.out
  replace q0 := cell_later HB3.out q0
  replace q1 := cell_later HB3.out q1
  replace q2 := cell_later HB3.out q2
  refine wp_region_held_drew (S := fun W => (((((Below w.heap.size w W) ∧ W.cell? ⟨w.heap.size, 0, none⟩ = some (.int .i64 t)) ∧ W.cell? ⟨w.heap.size, 1, none⟩ = some (.bool true)) ∧ W.cell? ⟨w.heap.size, 2, none⟩ = some (.int .i64 n)) ∧ W.cell? ⟨W1.heap.size, 0, none⟩ = some (.int .u8 (t % 256))) ∧ W.cell? ⟨W1.heap.size, 1, none⟩ = some (.int .u8 1)) (by kernel_rfl) ⟨⟨⟨⟨⟨BB3.out.drew, q0⟩, q1⟩, q2⟩, q3⟩, q4⟩ (fun hHeld => ?_)
  obtain ⟨V0, hV0⟩ : ∃ V, W3.drew = V := ⟨_, rfl⟩
  rw [hV0] at hHeld ⊢
  clear hV0 q0 q1 q2 q3 q4
  refine take_yes (i := 0) (d := (some 12)) (v := ?_) rfl (by kernel_rfl) (by kernel_rfl) (by kernel_rfl) rfl (fun _ _ _ h => h) (by rfl) (by assumption) ?_ ?_
  rotate_left
  · (intro w hSw; (try dsimp only at hSw); go_simp; try with_reducible rfl)
  try simp only [Act.put, List.setIfInBounds_toArray, List.set_cons_zero, List.set_cons_succ]
  refine take_yes (i := 1) (d := (some 13)) (v := ?_) rfl (by kernel_rfl) (by kernel_rfl) (by kernel_rfl) rfl (fun _ _ _ h => h) (by rfl) (by assumption) ?_ ?_
  rotate_left
  · (intro w hSw; (try dsimp only at hSw); have hq9 := two_at (m := 1) hSw.1.2 (by rw [hSw.2]; rfl); go_simp; try with_reducible rfl)
  try simp only [Act.put, List.setIfInBounds_toArray, List.set_cons_zero, List.set_cons_succ]
  refine take_yes (i := 2) (d := (some 14)) (v := ?_) rfl (by kernel_rfl) (by kernel_rfl) (by kernel_rfl) rfl (fun _ _ _ h => h) (by rfl) (by assumption) ?_ ?_
  rotate_left
  · (intro w hSw; (try dsimp only at hSw); go_simp; try with_reducible rfl)
  try simp only [Act.put, List.setIfInBounds_toArray, List.set_cons_zero, List.set_cons_succ]
  refine take_yes (i := 3) (d := (some 15)) (v := ?_) rfl (by kernel_rfl) (by kernel_rfl) (by kernel_rfl) rfl (fun _ _ _ h => h) (by rfl) (by assumption) ?_ ?_
  rotate_left
  · (intro w hSw; (try dsimp only at hSw); go_simp; try with_reducible rfl)
  try simp only [Act.put, List.setIfInBounds_toArray, List.set_cons_zero, List.set_cons_succ]
  refine take_yes (i := 4) (d := (some 16)) (v := ?_) rfl (by kernel_rfl) (by kernel_rfl) (by kernel_rfl) rfl (fun _ _ _ h => h) (by rfl) (by assumption) ?_ ?_
  rotate_left
  · (intro w hSw; (try dsimp only at hSw); go_simp; try with_reducible rfl)
  try simp only [Act.put, List.setIfInBounds_toArray, List.set_cons_zero, List.set_cons_succ]
  refine take_yes (i := 5) (d := (some 17)) (v := ?_) rfl (by kernel_rfl) (by kernel_rfl) (by kernel_rfl) rfl (fun _ _ _ h => h) (by rfl) (by assumption) ?_ ?_
  rotate_left
  · (intro w hSw; (try dsimp only at hSw); go_simp; try with_reducible rfl)
  try simp only [Act.put, List.setIfInBounds_toArray, List.set_cons_zero, List.set_cons_succ]
  refine wpAnyH_ready (rs := [6]) (by kernel_rfl) (by simp) ?_
  refine (AllReadyH.cons (o := _) rfl (fun K hK => ?_) AllReadyH.nil)
  go_simp
  go_at_call 54
  refine (const_any t n V0 hn).mono ?_
  rintro en V1 ⟨rfl, c9⟩
  go_wp2_with fail
  refine hK.out _ _ (⟨⟨⟨⟨⟨(hHeld.1.1.1.1.1).trans ((c9).mono (hHeld.1.1.1.1.1).size), cell_later c9 hHeld.1.1.1.1.2⟩, cell_later c9 hHeld.1.1.1.2⟩, cell_later c9 hHeld.1.1.2⟩, cell_later c9 hHeld.1.2⟩, cell_later c9 hHeld.2⟩) (fun hHeld => ?_)
  clear c9
  clear hK K
  try simp only [Act.put, List.setIfInBounds_toArray, List.set_cons_zero, List.set_cons_succ]
  refine take_yes (i := 7) (d := (some 19)) (v := ?_) rfl (by kernel_rfl) (by kernel_rfl) (by kernel_rfl) rfl (fun _ _ _ h => h) (by rfl) (by assumption) ?_ ?_
  rotate_left
  · (intro w hSw; (try dsimp only at hSw); go_simp; try with_reducible rfl)
  try simp only [Act.put, List.setIfInBounds_toArray, List.set_cons_zero, List.set_cons_succ]
  refine take_yes (i := 8) (d := (some 2)) (v := ?_) rfl (by kernel_rfl) (by kernel_rfl) (by kernel_rfl) rfl (fun _ _ _ h => h) (by rfl) (by assumption) ?_ ?_
  rotate_left
  · (intro w hSw; (try dsimp only at hSw); go_simp; try with_reducible rfl)
  try simp only [Act.put, List.setIfInBounds_toArray, List.set_cons_zero, List.set_cons_succ]
  refine wpAnyH_done (by kernel_rfl) ?_ _
  go_wp2_with fail
  go_ret
  exact ⟨by rw [← HE.out]; rfl, hHeld.1.1.1.1.1⟩
theorem glob_any (t n : Int) (b : Bool) (w : World) (hn : (Lit.int .i64 n).wf = true) :
    Calls Tryz.prog 53 #[.agg #[.int .i64 t, .bool b, .int .i64 n]] w fun e w' => e = .returned (.string (bs (globL ⟨t, b, n⟩))) ∧ Below w.heap.size w w' := by
  cases b
  · exact glob_false t n w hn
  · exact glob_true t n w hn
end Go.Proofs.YtmfdabkmijbffaaGreatDoor.Enc
