/-
  The law of what is apart: the walk. No condition beyond what each theorem names.
-/
import Derived.Test.YtofepnojhghnnaaGreatDoorEncApartP
import Derived.Test.YtofepnojhghnnaaGreatDoorEncPartsW
import Derived.Test.YtofepnojhghnnaaGreatDoorModOwn
namespace Go.Proofs.YtofepnojhghnnaaGreatDoor.Enc
open Go.RowKit Go.Maps Go.Proofs.YtofepnojhghnnaaGreatDoor.Op Go.Proofs.YtofepnojhghnnaaGreatDoor.Mod Go.Proofs.YtofepnojhghnnaaGreatDoor.Leb Go.Proofs.YtofepnojhghnnaaGreatDoor.Bytes Go.Proofs.YtofepnojhghnnaaGreatDoor.Pg
set_option linter.unusedVariables false
set_option linter.unusedSimpArgs false
theorem row_take {w : World} {size n c : Nat} {la : Option Addr} {rows : List (List Value)} (h : RowAt w size (.slice la n c) rows) {k : Nat} (hk : k ≤ n) (c' : Nat) : RowAt w size (.slice la k c') (rows.take k) := by
  obtain ⟨la', c0, hv, hl, hr⟩ := h
  simp only [Value.slice.injEq] at hv
  obtain ⟨rfl, rfl, rfl⟩ := hv
  have hlen : (rows.take k).length = k := by rw [List.length_take]; omega
  refine ⟨la, c', by rw [hlen], by omega, fun i r hi => ?_⟩
  have hik := (List.getElem?_eq_some_iff.1 hi).1
  rw [List.getElem?_take_of_lt (by omega)] at hi
  exact hr i r hi
theorem row_drop {w : World} {size n c b off : Nat} {rows : List (List Value)} (h : RowAt w size (.slice (some ⟨b, off, none⟩) n c) rows) {k : Nat} (hk : k ≤ n) (c' : Nat) : RowAt w size (.slice (some ⟨b, off + k * size, none⟩) (n - k) c') (rows.drop k) := by
  obtain ⟨la', c0, hv, hl, hr⟩ := h
  simp only [Value.slice.injEq] at hv
  obtain ⟨rfl, rfl, rfl⟩ := hv
  refine ⟨_, c', by rw [List.length_drop], by rw [List.length_drop]; omega, fun i r hi => ?_⟩
  rw [List.getElem?_drop] at hi
  obtain ⟨h1, b', off', he, hb, hc⟩ := hr _ r hi
  simp only [Option.some.injEq, Addr.mk.injEq, and_true] at he
  obtain ⟨rfl, rfl⟩ := he
  refine ⟨h1, b, _, rfl, hb, fun j u hu => ?_⟩
  have := hc j u hu
  rw [Nat.add_mul] at this
  rw [show off + k * size + i * size + j = off + (k * size + i * size) + j by omega]
  exact this
theorem parts_mod {W : World} {bt bf bm bg be : Nat} {cv dv : Value} {c : List Ins} {nm : ByteArray} {dat : List DataP}
    (ht : W.heap[bt]? = some (.cells #[.string ⟨#[126, 127]⟩, .string ⟨#[126]⟩] 51 (0, 0)))
    (hf : W.heap[bf]? = some (.cells #[.int .i64 0, .string ⟨#[127, 126]⟩, cv] 46 (0, 0)))
    (hm : W.heap[bm]? = some (.cells #[.int .i64 1, .int .i64 2] 68 (0, 0)))
    (hg : W.heap[bg]? = some (.cells #[.int .i64 127, .bool true, .int .i64 5, .int .i64 126, .bool true, .int .i64 (-5)] 70 (0, 0)))
    (he : W.heap[be]? = some (.cells #[.string nm, .int .i64 0, .int .i64 0] 48 (0, 0)))
    (hc : CodeAt W cv (c.map toL)) (hl : c.length ≤ 100000) (hn : nm.size ≤ 9223372036854775807) (hd : DatasAt W dv dat) : ModAt W (slV bt 1) (slV bf 1) (slV bm 1) (slV bg 2) (slV be 1) (-1) dv (modN c nm dat) := by
  have one : ∀ {α : Type} {x0 : α} {i : Nat} {x : α}, [x0][i]? = some x → i = 0 ∧ x = x0 := fun {α x0 i x} hi => by
    match i, hi with
    | 0, hi => exact ⟨rfl, by simpa using hi.symm⟩
    | i + 1, hi => simp at hi
  refine ⟨?_, ?_, ?_, ?_, ?_, rfl, hd⟩
  · refine row_of_block ht _ _ _ rfl (by simp [modN, modOf]) (fun i x hi => ?_)
    obtain ⟨rfl, rfl⟩ := one hi
    exact ⟨⟨rfl, by decide, by decide⟩, rfl⟩
  · refine row_of_block hf _ _ _ rfl (by simp [modN, modOf]) (fun i x hi => ?_)
    obtain ⟨rfl, rfl⟩ := one hi
    exact ⟨⟨cv, rfl, hc, show (2 : Nat) ≤ _ by decide, by show (c.map toL).length * 48 ≤ _; rw [List.length_map]; omega⟩, rfl⟩
  · refine row_of_block hm _ _ _ rfl (by simp [modN, modOf]) (fun i x hi => ?_)
    obtain ⟨rfl, rfl⟩ := one hi
    exact ⟨rfl, rfl⟩
  · refine row_of_block hg _ _ _ rfl (by simp [modN, modOf]) (fun i x hi => ?_)
    have hi2 : [(⟨127, true, 5⟩ : GlobP), ⟨126, true, -5⟩][i]? = some x := hi
    match i, hi2 with
    | 0, hi2 => obtain rfl := Option.some.inj hi2; exact ⟨rfl, rfl⟩
    | 1, hi2 => obtain rfl := Option.some.inj hi2; exact ⟨rfl, rfl⟩
    | i + 2, hi2 => simp at hi2
  · refine row_of_block he _ _ _ rfl (by simp [modN]) (fun i x hi => ?_)
    obtain ⟨rfl, rfl⟩ := one hi
    exact ⟨⟨rfl, hn⟩, rfl⟩
theorem datas0 {W : World} {bd : Nat} (hd : W.heap[bd]? = some (.cells #[.int .i64 100, .string ⟨#[115, 111, 109, 101, 32, 98, 121, 116, 101, 115]⟩] 72 (0, 0))) : DatasAt W (slV bd 1) dat0 := by
  refine row_of_block (R := isData) hd dat0 1 1 rfl (by simp [dat0]) (fun i x hi => ?_)
  match i, hi with
  | 0, hi =>
    obtain rfl := Option.some.inj hi
    exact ⟨⟨rfl, by decide⟩, rfl⟩
  | i + 1, hi => simp [dat0] at hi
abbrev mbox (bt bf bm bg be bd : Nat) : Array Value := #[slV bt 1, slV bf 1, slV bm 1, slV bg 2, slV be 1, .int .i64 (-1), slV bd 1]
theorem ne_kind {W : World} {i j : Nat} {cs cs' : Array Value} {t t' : TypeId} {f f' : Nat × Nat} (h : W.heap[i]? = some (.cells cs t f)) (h' : W.heap[j]? = some (.cells cs' t' f')) (ht : t ≠ t') : i ≠ j := by
  rintro rfl
  rw [h] at h'
  simp at h'
  exact ht h'.2.1
/-- region 10: the code with one instruction more, in the func's cell -/
abbrev HeldN (nb bf : Nat) (W : World) : Prop := W.cell? ⟨nb, 1, none⟩ = some (.slice (some ⟨bf, 0, none⟩) 1 1)
set_option maxRecDepth 100000 in
set_option maxHeartbeats 16000000 in
theorem apart_law (v : Value) (l : List Step) (at_ : Int) (nm : ByteArray) (w : World) (hl : StepsAt w v l) (hwf : ∀ t ∈ l, -9223372036854775808 ≤ t.a ∧ t.a ≤ 9223372036854775807) (hat : 0 ≤ at_ ∧ at_ ≤ 255) (hnm : nm.size ≤ 1048576) (hE : MEnv w) :
    Calls Tryz.prog 4 #[v, .int .u8 at_, .string nm] w fun e w' => e = .returned (.bool true) ∧ Below w.heap.size w w' := by
  have HEX := Lib.hid (examples05 w hE)
  have HM := Lib.hid (fun (W : World) (hW : Below w.heap.size w W) => made_any v l W (ListAt.later (fun _ _ _ _ h _ => h) hl hW) (made_opsWf l))
  have HEN := Lib.hid (fun (W : World) (hW : Below w.heap.size w W) => hE.later hW)
  have HEM := Lib.hid (enc_made l hwf)
  have HLN := Lib.hid (made_len2 l)
  have HWF := Lib.hid (show ∀ x ∈ (madeP l).code, InsWf x from made_wf l hwf)
  have HST := Lib.hid (made_struct l)
  have HOKS := Lib.hid (show ∀ x ∈ (madeP l).code, okI x = true from made_oks l)
  obtain ⟨C, hC⟩ : ∃ C, (madeP l).code = C := ⟨_, rfl⟩
  rw [hC] at HM HEM HLN HWF HST HOKS
  have hC0 : 0 < C.length := by
    rw [← hC]
    have : (madeP l).code = (levelP (shutAll (runP .start (l.take 60)).opens.length (runP .start (l.take 60))) ⟨0, 126, 0⟩).code ++ [⟨11, 0, 0⟩] := by unfold madeP lastP putP; rfl
    rw [this]
    simp
  have HNM := Lib.hid hnm
  obtain ⟨k, hk, hkl⟩ : ∃ k : Nat, at_.tmod (C.length : Int) = (k : Int) ∧ k < C.length := by
    refine ⟨(at_ % (C.length : Int)).toNat, ?_, ?_⟩
    · rw [Int.tmod_eq_emod_of_nonneg hat.1]
      have := Int.emod_nonneg at_ (show (C.length : Int) ≠ 0 by omega)
      omega
    · have h1 := Int.emod_nonneg at_ (show (C.length : Int) ≠ 0 by omega)
      have h2 := Int.emod_lt_of_pos at_ (show (0 : Int) < (C.length : Int) by omega)
      omega
  have HKL := Lib.hid hkl
  obtain ⟨la, lc, rfl, _⟩ := hl.form
  have HC0 := Lib.hid hC0
  have hwat : wrap64 at_ = at_ := by unfold wrap64; omega
  clear hl hwf hE hC hat hnm
  go_enter Tryz.func4, Tryz.ntmps4
  go_wp2_with fail
  refine HEX.out.mono ?_
  rintro e w1 ⟨rfl, c1⟩
  have C1 := Lib.hid c1
  clear c1
  go_wp2_with fail
  refine (HM.out w1 C1.out).mono ?_
  rintro e w2 ⟨⟨bt, bf, bm, bg, be, bd, cv, rfl, hA⟩, c2⟩
  have C2 := Lib.hid (C1.out.trans (c2.mono C1.out.size))
  obtain ⟨W3, hW3⟩ : ∃ W3, w2.alloc (.cells (mbox bt bf bm bg be bd) 29) = W3 := ⟨_, rfl⟩
  have B3 : Below w2.heap.size w2 W3 := by rw [← hW3]; exact (Below.refl _ _).alloc (Nat.le_refl _) _
  have hrow : W3.heap[w2.heap.size]? = some (.cells (mbox bt bf bm bg be bd) 29 (0, 0)) := by rw [← hW3]; exact heap_alloc_new _ _
  have HA := Lib.hid (hA.later B3)
  have C3 := Lib.hid (C2.out.trans (B3.mono C2.out.size))
  have HROW := Lib.hid hrow
  have HW3 := Lib.hid hW3
  clear c2 hA hW3 B3 hrow
  have henc := enc_own _ _ _ _ _ _ _ _ W3 (HEN.out W3 C3.out) HA.out.mod (fun _ => wok_modOf HWF.out (by have := HLN.out; omega)) (fun _ => by have h1 := modOf_len HWF.out; have h2 := HLN.out; omega)
  rw [HEM.out] at henc
  have HENC := Lib.hid henc
  clear henc
  have q0 : W3.cell? ⟨w2.heap.size, 0, none⟩ = some (slV bt 1) := cell_of_row W3 _ 0 _ _ _ HROW.out
  have q1 : W3.cell? ⟨w2.heap.size, 1, none⟩ = some (slV bf 1) := cell_of_row W3 _ 1 _ _ _ HROW.out
  have q2 : W3.cell? ⟨w2.heap.size, 2, none⟩ = some (slV bm 1) := cell_of_row W3 _ 2 _ _ _ HROW.out
  have q3 : W3.cell? ⟨w2.heap.size, 3, none⟩ = some (slV bg 2) := cell_of_row W3 _ 3 _ _ _ HROW.out
  have q4 : W3.cell? ⟨w2.heap.size, 4, none⟩ = some (slV be 1) := cell_of_row W3 _ 4 _ _ _ HROW.out
  have q5 : W3.cell? ⟨w2.heap.size, 5, none⟩ = some (.int .i64 (-1)) := cell_of_row W3 _ 5 _ _ _ HROW.out
  have q6 : W3.cell? ⟨w2.heap.size, 6, none⟩ = some (slV bd 1) := cell_of_row W3 _ 6 _ _ _ HROW.out
  unfold madeV modV
  unfold modV at HENC
  unfold mbox at HW3
  unfold slV at q0 q1 q2 q3 q4 q6 HW3 HENC ⊢
  go_upto_region 5 with fail
  rw [HW3.out]
  go_wp2_with fail
  refine HENC.out.mono ?_
  rintro e w4 ⟨rfl, c4⟩
  have C4 := Lib.hid (C3.out.trans (c4.mono C3.out.size))
  clear c4 q0 q1 q2 q3 q4 q5 q6 HENC HW3 HROW HA
  obtain ⟨SA, hSA⟩ : ∃ SA, bs (modL (modOf C)) = SA := ⟨_, rfl⟩
  have HSA := Lib.hid hSA
  dsimp only
  rw [hSA]
  clear hSA
  go_wp2_with fail
  refine (HM.out w4 C4.out).mono ?_
  rintro e w5 ⟨⟨bt, bf, bm, bg, be, bd, cv, rfl, hA⟩, c5⟩
  have C5 := Lib.hid (C4.out.trans (c5.mono C4.out.size))
  obtain ⟨W6, hW6⟩ : ∃ W6, w5.alloc (.cells (mbox bt bf bm bg be bd) 29) = W6 := ⟨_, rfl⟩
  have B6 : Below w5.heap.size w5 W6 := by rw [← hW6]; exact (Below.refl _ _).alloc (Nat.le_refl _) _
  have hrow : W6.heap[w5.heap.size]? = some (.cells (mbox bt bf bm bg be bd) 29 (0, 0)) := by rw [← hW6]; exact heap_alloc_new _ _
  have HA := Lib.hid (hA.later B6)
  have C6 := Lib.hid (C5.out.trans (B6.mono C5.out.size))
  have HROW := Lib.hid hrow
  have HW6 := Lib.hid hW6
  have HLB := Lib.hid (show w.heap.size ≤ w4.heap.size from C4.out.size)
  clear c5 hA hW6 B6 hrow
  obtain ⟨nb, hnb⟩ : ∃ nb, w5.heap.size = nb := ⟨_, rfl⟩
  rw [hnb] at HROW
  have HNB := Lib.hid hnb
  have p1 : W6.cell? ⟨nb, 1, none⟩ = some (slV bf 1) := cell_of_row W6 _ 1 _ _ _ HROW.out
  obtain ⟨g, cap, rfl⟩ := Go.Joins.ownsRow_form HA.out.hc HC0.out
  have p2 : W6.cell? ⟨bf, 2, none⟩ = some (.slice (some ⟨g, 0, none⟩) C.length cap) := cell_of_row W6 _ 2 _ _ _ HA.out.hf
  have hcap : C.length ≤ cap := by
    rcases HA.out.hc.2 with ⟨h1, _⟩ | ⟨g', cap', cur, h1, _, _, h3, _⟩
    · cases h1
    · simp only [Value.slice.injEq] at h1
      omega
  unfold madeV modV
  unfold mbox at HW6
  unfold slV at p1 HW6 ⊢
  have hC0z : ((C.length : Int) == 0) = false := by rw [beq_eq_false_iff_ne]; have := HC0.out; omega
  have hC0n : ¬ (C.length : Int) = 0 := by have := HC0.out; omega
  go_upto_region 7 with fail
  rw [HW6.out]
  go_upto_region 10 with fail
  have hcod : Cod W6 w4.heap.size (.slice (some ⟨g, 0, none⟩) C.length cap) C := by
    have h := HA.out.hc
    refine ⟨?_, fun r hr => by obtain ⟨y, _, rfl⟩ := List.mem_map.1 hr; rfl⟩
    rw [List.length_map]
    exact h
  have hr0 := OwnAt.row hcod (by decide) (by rw [List.length_map]; have := HLN.out; omega)
  rw [show C.length = C.length from rfl] at hr0
  have HR1 := Lib.hid (row_take hr0 (Nat.le_of_lt HKL.out) cap)
  have hr2 := row_drop hr0 (Nat.le_of_lt HKL.out) (cap - k)
  rw [Nat.zero_add] at hr2
  have HR2 := Lib.hid hr2
  have hck : ¬ cap = k := by have := HKL.out; omega
  have hone : ∀ r ∈ (C.map Ins.cells), ∀ u ∈ r, u.oneCell' = true := fun r hr u hu => by obtain ⟨y, _, rfl⟩ := List.mem_map.1 hr; exact ins_cells_one y u hu
  have HO1 := Lib.hid (fun r (hr : r ∈ (C.map Ins.cells).take k) => hone r (List.mem_of_mem_take hr))
  have HO2 := Lib.hid (fun r (hr : r ∈ (C.map Ins.cells).drop k) => hone r (List.mem_of_mem_drop hr))
  have hl1 : ((C.map Ins.cells).take k).length = k := by rw [List.length_take, List.length_map]; have := HKL.out; omega
  have hl2 : ((C.map Ins.cells).drop k).length = C.length - k := by rw [List.length_drop, List.length_map]
  have HL1 := Lib.hid hl1
  have HL2 := Lib.hid hl2
  have hkn : (k : Int) ≤ (C.length : Int) := by have := HKL.out; omega
  have hkc : (k : Int) ≤ (cap : Int) := by have := HKL.out; omega
  have hsl1 : ∀ W, (Instr.slice 44 (.slice (some ⟨g, 0, none⟩) C.length cap) none (some (.int .i64 (k : Int))) none).run Tryz.prog W = .ok (.slice (some ⟨g, 0, none⟩) k cap) W := fun W => by
    have ht := Tryz.underlying44
    have he : Tryz.prog.cellsOf 33 = 4 := by kernel_rfl
    go_simp
  have hsl2 : ∀ W, (Instr.slice 44 (.slice (some ⟨g, 0, none⟩) C.length cap) (some (.int .i64 (k : Int))) none none).run Tryz.prog W = .ok (.slice (some ⟨g, k * 4, none⟩) (C.length - k) (cap - k)) W := fun W => by
    have ht := Tryz.underlying44
    have he : Tryz.prog.cellsOf 33 = 4 := by kernel_rfl
    go_simp
  clear hl1 hl2 hone hr0 hcod hr2
  have hblt := Lib.hid (show bf < W6.heap.size ∧ nb < W6.heap.size from ⟨(Array.getElem?_eq_some_iff.1 HA.out.hf).1, (Array.getElem?_eq_some_iff.1 HROW.out).1⟩)
  have hnbf := Lib.hid (ne_kind HA.out.hf HROW.out (by decide))
  go_cut [12] (fun s12 wx => s12 = .int .i64 (k : Int) ∧ Hid (∃ a c V, wx = V.setCell ⟨bf, 2, none⟩ (.slice a (C.length + 1) c) ∧ OwnAt V W6.heap.size 33 4 (.slice a (C.length + 1) c) ((C.map Ins.cells).take k ++ [Ins.cells ⟨1, 0, 0⟩] ++ (C.map Ins.cells).drop k) ∧ Below W6.heap.size W6 V))
  case first =>
   refine wp_region_held_drew (S := fun W => HeldN nb bf W) (by kernel_rfl) p1 (fun hHeld => ?_)
   obtain ⟨V0, hV0⟩ : ∃ V, W6.drew = V := ⟨_, rfl⟩
   have HB0 := Lib.hid (show Below W6.heap.size W6 V0 by rw [← hV0]; exact (Below.refl _ _).drew)
   replace p2 : V0.cell? ⟨bf, 2, none⟩ = some (.slice (some ⟨g, 0, none⟩) C.length cap) := by rw [← hV0]; exact p2
   rw [hV0] at hHeld ⊢
   clear hV0 p1

   refine take_yes (i := 0) (d := (some 53)) (v := ?_) rfl (by kernel_rfl) (by kernel_rfl) (by kernel_rfl) rfl (fun _ _ _ h => h) (by rfl) (by assumption) ?_ ?_
   rotate_left
   · (intro w hSw; (try dsimp only at hSw); go_simp; try with_reducible rfl)
   try simp only [Act.put, List.setIfInBounds_toArray, List.set_cons_zero, List.set_cons_succ]
   refine take_yes (i := 1) (d := (some 54)) (v := ?_) rfl (by kernel_rfl) (by kernel_rfl) (by kernel_rfl) rfl (fun _ _ _ h => h) (by rfl) (by assumption) ?_ ?_
   rotate_left
   · (intro w hSw; (try dsimp only at hSw); go_simp; try with_reducible rfl)
   try simp only [Act.put, List.setIfInBounds_toArray, List.set_cons_zero, List.set_cons_succ]
   refine take_yes (i := 2) (d := (some 55)) (v := ?_) rfl (by kernel_rfl) (by kernel_rfl) (by kernel_rfl) rfl (fun _ _ _ h => h) (by rfl) (by assumption) ?_ ?_
   rotate_left
   · (intro w hSw; (try dsimp only at hSw); go_simp; try with_reducible rfl)
   try simp only [Act.put, List.setIfInBounds_toArray, List.set_cons_zero, List.set_cons_succ]
   refine take_yes (i := 3) (d := (some 56)) (v := ?_) rfl (by kernel_rfl) (by kernel_rfl) (by kernel_rfl) rfl (fun _ _ _ h => h) (by rfl) (by assumption) ?_ ?_
   rotate_left
   · (intro w hSw; (try dsimp only at hSw); go_simp; try with_reducible rfl)
   try simp only [Act.put, List.setIfInBounds_toArray, List.set_cons_zero, List.set_cons_succ]
   refine take_yes (i := 4) (d := (some 57)) (v := ?_) rfl (by kernel_rfl) (by kernel_rfl) (by kernel_rfl) rfl (fun _ _ _ h => h) (by rfl) (by assumption) ?_ ?_
   rotate_left
   · (intro w hSw; (try dsimp only at hSw); go_simp; try with_reducible rfl)
   try simp only [Act.put, List.setIfInBounds_toArray, List.set_cons_zero, List.set_cons_succ]
   refine take_yes (i := 5) (d := (some 58)) (v := ?_) rfl (by kernel_rfl) (by kernel_rfl) (by kernel_rfl) rfl (fun _ _ _ h => h) (by rfl) (by assumption) ?_ ?_
   rotate_left
   · (intro w hSw; (try dsimp only at hSw); go_simp; try with_reducible rfl)
   try simp only [Act.put, List.setIfInBounds_toArray, List.set_cons_zero, List.set_cons_succ]
   refine take_yes (i := 7) (d := (some 60)) (v := ?_) rfl (by kernel_rfl) (by kernel_rfl) (by kernel_rfl) rfl (fun _ _ _ h => h) (by rfl) (by assumption) ?_ ?_
   rotate_left
   · (intro w hSw; (try dsimp only at hSw); go_simp; try with_reducible rfl)
   try simp only [Act.put, List.setIfInBounds_toArray, List.set_cons_zero, List.set_cons_succ]
   refine take_yes (i := 10) (d := (some 63)) (v := ?_) rfl (by kernel_rfl) (by kernel_rfl) (by kernel_rfl) rfl (fun _ _ _ h => h) (by rfl) (by assumption) ?_ ?_
   rotate_left
   · (intro w hSw; (try dsimp only at hSw); go_simp; try with_reducible rfl)
   try simp only [Act.put, List.setIfInBounds_toArray, List.set_cons_zero, List.set_cons_succ]
   refine take_yes (i := 13) (d := (some 66)) (v := ?_) rfl (by kernel_rfl) (by kernel_rfl) (by kernel_rfl) rfl (fun _ _ _ h => h) (by rfl) (by assumption) ?_ ?_
   rotate_left
   · (intro w hSw; (try dsimp only at hSw); go_simp; try with_reducible rfl)
   try simp only [Act.put, List.setIfInBounds_toArray, List.set_cons_zero, List.set_cons_succ]
   refine take_yes (i := 14) (d := (some 67)) (v := ?_) rfl (by kernel_rfl) (by kernel_rfl) (by kernel_rfl) rfl (fun _ _ _ h => h) (by rfl) (by assumption) ?_ ?_
   rotate_left
   · (intro w hSw; (try dsimp only at hSw); go_simp; try with_reducible rfl)
   try simp only [Act.put, List.setIfInBounds_toArray, List.set_cons_zero, List.set_cons_succ]
   refine take_yes (i := 15) (d := (some 68)) (v := ?_) rfl (by kernel_rfl) (by kernel_rfl) (by kernel_rfl) rfl (fun _ _ _ h => h) (by rfl) (by assumption) ?_ ?_
   rotate_left
   · (intro w hSw; (try dsimp only at hSw); go_simp; try with_reducible rfl)
   try simp only [Act.put, List.setIfInBounds_toArray, List.set_cons_zero, List.set_cons_succ]
   refine take_yes (i := 16) (d := (some 69)) (v := ?_) rfl (by kernel_rfl) (by kernel_rfl) (by kernel_rfl) rfl (fun _ _ _ h => h) (by rfl) (by assumption) ?_ ?_
   rotate_left
   · (intro w hSw; (try dsimp only at hSw); go_simp; try with_reducible rfl)
   try simp only [Act.put, List.setIfInBounds_toArray, List.set_cons_zero, List.set_cons_succ]
   refine take_yes (i := 18) (d := (some 71)) (v := ?_) rfl (by kernel_rfl) (by kernel_rfl) (by kernel_rfl) rfl (fun _ _ _ h => h) (by rfl) (by assumption) ?_ ?_
   rotate_left
   · (intro w hSw; (try dsimp only at hSw); go_simp; try with_reducible rfl)
   try simp only [Act.put, List.setIfInBounds_toArray, List.set_cons_zero, List.set_cons_succ]
   refine wpAnyH_ready (rs := [6, 11, 17]) (by kernel_rfl) (by simp) ?_
   refine (AllReadyH.cons (o := _) rfl (fun K hK => ?_) (AllReadyH.cons (o := _) rfl (fun K hK => ?_) (AllReadyH.cons (o := _) rfl (fun K hK => ?_) AllReadyH.nil)))
   · skip
     go_simp
     refine hK.out _ _ hHeld (fun hHeld => ?_)
     clear hK K
     try simp only [Act.put, List.setIfInBounds_toArray, List.set_cons_zero, List.set_cons_succ]
     refine take_yes (i := 8) (d := (some 61)) (v := ?_) rfl (by kernel_rfl) (by kernel_rfl) (by kernel_rfl) rfl (fun _ _ _ h => h) (by rfl) (by assumption) ?_ ?_
     rotate_left
     · (intro w hSw; (try dsimp only at hSw); go_simp; try with_reducible rfl)
     try simp only [Act.put, List.setIfInBounds_toArray, List.set_cons_zero, List.set_cons_succ]
     refine wpAnyH_ready (rs := [9, 11, 17]) (by kernel_rfl) (by simp) ?_
     refine (AllReadyH.cons (o := _) rfl (fun K hK => ?_) (AllReadyH.cons (o := _) rfl (fun K hK => ?_) (AllReadyH.cons (o := _) rfl (fun K hK => ?_) AllReadyH.nil)))
     · skip
       refine step_app ty_ins rfl _ _ rfl rfl (own_nil V0 W6.heap.size _ _) rfl (HR1.out.later HB0.out) HO1.out (by rw [HL1.out]; have h1 := HKL.out; have h2 := HLN.out; exact ⟨by simp; omega, by decide⟩) HB0.out.size ?_
       intro a62 c62 V1 o62 k62 n62
       rw [show ([] : List (List Value)).length + ((C.map Ins.cells).take k).length = k by rw [HL1.out]; simp] at o62 n62 ⊢
       rw [List.nil_append] at o62
       have b9 := own_below (own_nil V0 W6.heap.size 33 4) k62 HB0.out.size
       have b8 : Below V0.heap.size V0 V1 := k62.below (fun j hj => by cases hj) (Nat.le_refl _)
       replace p2 := (b9).cell (p := ⟨bf, 2, none⟩) hblt.out.1 |>.trans p2
       replace hHeld : HeldN nb bf V1 := ((b9).cell (p := ⟨nb, 1, none⟩) hblt.out.2).trans hHeld
       replace HB0 := Lib.hid (HB0.out.trans (b9))
       have HO62 := Lib.hid o62
       clear o62 k62 n62 b9 b8
       refine hK.out _ _ hHeld (fun hHeld => ?_)
       clear hK K
       try simp only [Act.put, List.setIfInBounds_toArray, List.set_cons_zero, List.set_cons_succ]
       refine wpAnyH_ready (rs := [11, 17]) (by kernel_rfl) (by simp) ?_
       refine (AllReadyH.cons (o := _) rfl (fun K hK => ?_) (AllReadyH.cons (o := _) rfl (fun K hK => ?_) AllReadyH.nil))
       · skip
         go_simp
         have b8 : Below V1.heap.size V1 (V1.alloc (.cells #[.int .i64 1, .int .i64 0, .int .i64 0, .slice none 0 0] 33)) := (Below.refl _ _).alloc (Nat.le_refl _) _
         have r9 : RowAt (V1.alloc (.cells #[.int .i64 1, .int .i64 0, .int .i64 0, .slice none 0 0] 33)) 4 (.slice (some ⟨V1.heap.size, 0, none⟩) 1 1) [Ins.cells ⟨1, 0, 0⟩] := row_new V1 33 (Ins.cells ⟨1, 0, 0⟩)
         generalize hg9 : V1.heap.size = g64 at r9 ⊢
         obtain ⟨V2, hV9⟩ : ∃ V, V1.alloc (.cells #[.int .i64 1, .int .i64 0, .int .i64 0, .slice none 0 0] 33) = V := ⟨_, rfl⟩
         rw [hV9] at b8 r9 ⊢
         have b9 := b8.mono HB0.out.size
         replace p2 := (b9).cell (p := ⟨bf, 2, none⟩) hblt.out.1 |>.trans p2
         replace hHeld : HeldN nb bf V2 := ((b9).cell (p := ⟨nb, 1, none⟩) hblt.out.2).trans hHeld
         replace HB0 := Lib.hid (HB0.out.trans (b9))
         replace HO62 := Lib.hid (HO62.out.later b8)
         have HR64 := Lib.hid r9
         clear b8 b9 r9 hg9 hV9
         refine hK.out _ _ hHeld (fun hHeld => ?_)
         clear hK K
         try simp only [Act.put, List.setIfInBounds_toArray, List.set_cons_zero, List.set_cons_succ]
         refine wpAnyH_ready (rs := [12, 17]) (by kernel_rfl) (by simp) ?_
         refine (AllReadyH.cons (o := _) rfl (fun K hK => ?_) (AllReadyH.cons (o := _) rfl (fun K hK => ?_) AllReadyH.nil))
         · skip
           refine step_app ty_ins (rows := (C.map Ins.cells).take k) (rows2 := [Ins.cells ⟨1, 0, 0⟩]) rfl _ _ rfl rfl HO62.out rfl HR64.out (fun r hr u hu => by rw [List.mem_singleton.1 hr] at hu; exact ins_cells_one _ u hu) (by have h3 := HL1.out; have h1 := HKL.out; have h2 := HLN.out; exact ⟨by simp only [List.length_cons, List.length_nil]; omega, by decide⟩) HB0.out.size ?_
           intro a65 c65 V3 o65 k65 n65
           rw [show ((C.map Ins.cells).take k).length + ([Ins.cells ⟨1, 0, 0⟩] : List (List Value)).length = k + 1 by rw [HL1.out]; rfl] at o65 n65 ⊢
           have b9 := own_below HO62.out k65 HB0.out.size
           replace p2 := (b9).cell (p := ⟨bf, 2, none⟩) hblt.out.1 |>.trans p2
           replace hHeld : HeldN nb bf V3 := ((b9).cell (p := ⟨nb, 1, none⟩) hblt.out.2).trans hHeld
           replace HB0 := Lib.hid (HB0.out.trans (b9))
           have HO65 := Lib.hid o65
           clear o65 k65 n65 b9 HO62 HR64
           refine hK.out _ _ hHeld (fun hHeld => ?_)
           clear hK K
           try simp only [Act.put, List.setIfInBounds_toArray, List.set_cons_zero, List.set_cons_succ]
           refine wpAnyH_ready (rs := [17]) (by kernel_rfl) (by simp) ?_
           refine (AllReadyH.cons (o := _) rfl (fun K hK => ?_) AllReadyH.nil)
           go_simp
           refine hK.out _ _ hHeld (fun hHeld => ?_)
           clear hK K
           try simp only [Act.put, List.setIfInBounds_toArray, List.set_cons_zero, List.set_cons_succ]
           refine take_yes (i := 19) (d := (some 72)) (v := ?_) rfl (by kernel_rfl) (by kernel_rfl) (by kernel_rfl) rfl (fun _ _ _ h => h) (by rfl) (by assumption) ?_ ?_
           rotate_left
           · (intro w hSw; (try dsimp only at hSw); go_simp; try with_reducible rfl)
           try simp only [Act.put, List.setIfInBounds_toArray, List.set_cons_zero, List.set_cons_succ]
           refine wpAnyH_ready (rs := [20]) (by kernel_rfl) (by simp) ?_
           refine (AllReadyH.cons (o := _) rfl (fun K hK => ?_) AllReadyH.nil)
           refine step_app ty_ins (rows := (C.map Ins.cells).take k ++ [Ins.cells ⟨1, 0, 0⟩]) (rows2 := (C.map Ins.cells).drop k) rfl _ _ rfl rfl HO65.out rfl (HR2.out.later HB0.out) HO2.out (by have h4 := HL2.out; have h3 := HL1.out; have h1 := HKL.out; have h2 := HLN.out; exact ⟨by simp only [List.length_cons, List.length_nil, List.length_append]; omega, by decide⟩) HB0.out.size ?_
           intro a73 c73 V4 o73 k73 n73
           rw [show ((C.map Ins.cells).take k ++ [Ins.cells ⟨1, 0, 0⟩]).length + ((C.map Ins.cells).drop k).length = C.length + 1 by rw [List.length_append, HL1.out, HL2.out]; have h1 := HKL.out; simp only [List.length_cons, List.length_nil]; omega] at o73 n73 ⊢
           have b9 := own_below HO65.out k73 HB0.out.size
           replace p2 := (b9).cell (p := ⟨bf, 2, none⟩) hblt.out.1 |>.trans p2
           replace hHeld : HeldN nb bf V4 := ((b9).cell (p := ⟨nb, 1, none⟩) hblt.out.2).trans hHeld
           replace HB0 := Lib.hid (HB0.out.trans (b9))
           have HO73 := Lib.hid o73
           clear o73 k73 n73 b9 HO65
           refine hK.out _ _ hHeld (fun hHeld => ?_)
           clear hK K
           try simp only [Act.put, List.setIfInBounds_toArray, List.set_cons_zero, List.set_cons_succ]
           refine take_yes (i := 21) (d := (some 74)) (v := ?_) rfl (by kernel_rfl) (by kernel_rfl) (by kernel_rfl) rfl (fun _ _ _ h => h) (by rfl) (by assumption) ?_ ?_
           rotate_left
           · (intro w hSw; (try dsimp only at hSw); go_simp; try with_reducible rfl)
           try simp only [Act.put, List.setIfInBounds_toArray, List.set_cons_zero, List.set_cons_succ]
           refine take_yes (i := 22) (d := (some 75)) (v := ?_) rfl (by kernel_rfl) (by kernel_rfl) (by kernel_rfl) rfl (fun _ _ _ h => h) (by rfl) (by assumption) ?_ ?_
           rotate_left
           · (intro w hSw; (try dsimp only at hSw); go_simp; try with_reducible rfl)
           try simp only [Act.put, List.setIfInBounds_toArray, List.set_cons_zero, List.set_cons_succ]
           refine wpAnyH_ready (rs := [23]) (by kernel_rfl) (by simp) ?_
           refine (AllReadyH.cons (o := _) rfl (fun K hK => ?_) AllReadyH.nil)
           have fz := frozen_of_row V4 _ 2 _ _ ((HB0.out.block bf hblt.out.1).trans HA.out.hf)
           go_simp
           refine hK.out _ _ ((World.cell?_setCell_far _ _ _ _ hnbf.out).trans hHeld) (fun hHeld => ?_)
           clear fz
           clear hK K
           try simp only [Act.put, List.setIfInBounds_toArray, List.set_cons_zero, List.set_cons_succ]
           refine wpAnyH_done (by kernel_rfl) ?_ _
           go_step
           go_step
           go_meet
           case rel => exact ⟨rfl, Lib.hid ⟨_, _, _, rfl, HO73.out, HB0.out⟩⟩
         · skip
           go_simp
           refine hK.out _ _ hHeld (fun hHeld => ?_)
           clear hK K
           try simp only [Act.put, List.setIfInBounds_toArray, List.set_cons_zero, List.set_cons_succ]
           refine take_yes (i := 19) (d := (some 72)) (v := ?_) rfl (by kernel_rfl) (by kernel_rfl) (by kernel_rfl) rfl (fun _ _ _ h => h) (by rfl) (by assumption) ?_ ?_
           rotate_left
           · (intro w hSw; (try dsimp only at hSw); go_simp; try with_reducible rfl)
           try simp only [Act.put, List.setIfInBounds_toArray, List.set_cons_zero, List.set_cons_succ]
           refine wpAnyH_ready (rs := [12]) (by kernel_rfl) (by simp) ?_
           refine (AllReadyH.cons (o := _) rfl (fun K hK => ?_) AllReadyH.nil)
           refine step_app ty_ins (rows := (C.map Ins.cells).take k) (rows2 := [Ins.cells ⟨1, 0, 0⟩]) rfl _ _ rfl rfl HO62.out rfl HR64.out (fun r hr u hu => by rw [List.mem_singleton.1 hr] at hu; exact ins_cells_one _ u hu) (by have h3 := HL1.out; have h1 := HKL.out; have h2 := HLN.out; exact ⟨by simp only [List.length_cons, List.length_nil]; omega, by decide⟩) HB0.out.size ?_
           intro a65 c65 V5 o65 k65 n65
           rw [show ((C.map Ins.cells).take k).length + ([Ins.cells ⟨1, 0, 0⟩] : List (List Value)).length = k + 1 by rw [HL1.out]; rfl] at o65 n65 ⊢
           have b9 := own_below HO62.out k65 HB0.out.size
           replace p2 := (b9).cell (p := ⟨bf, 2, none⟩) hblt.out.1 |>.trans p2
           replace hHeld : HeldN nb bf V5 := ((b9).cell (p := ⟨nb, 1, none⟩) hblt.out.2).trans hHeld
           replace HB0 := Lib.hid (HB0.out.trans (b9))
           have HO65 := Lib.hid o65
           clear o65 k65 n65 b9 HO62 HR64
           refine hK.out _ _ hHeld (fun hHeld => ?_)
           clear hK K
           try simp only [Act.put, List.setIfInBounds_toArray, List.set_cons_zero, List.set_cons_succ]
           refine wpAnyH_ready (rs := [20]) (by kernel_rfl) (by simp) ?_
           refine (AllReadyH.cons (o := _) rfl (fun K hK => ?_) AllReadyH.nil)
           refine step_app ty_ins (rows := (C.map Ins.cells).take k ++ [Ins.cells ⟨1, 0, 0⟩]) (rows2 := (C.map Ins.cells).drop k) rfl _ _ rfl rfl HO65.out rfl (HR2.out.later HB0.out) HO2.out (by have h4 := HL2.out; have h3 := HL1.out; have h1 := HKL.out; have h2 := HLN.out; exact ⟨by simp only [List.length_cons, List.length_nil, List.length_append]; omega, by decide⟩) HB0.out.size ?_
           intro a73 c73 V6 o73 k73 n73
           rw [show ((C.map Ins.cells).take k ++ [Ins.cells ⟨1, 0, 0⟩]).length + ((C.map Ins.cells).drop k).length = C.length + 1 by rw [List.length_append, HL1.out, HL2.out]; have h1 := HKL.out; simp only [List.length_cons, List.length_nil]; omega] at o73 n73 ⊢
           have b9 := own_below HO65.out k73 HB0.out.size
           replace p2 := (b9).cell (p := ⟨bf, 2, none⟩) hblt.out.1 |>.trans p2
           replace hHeld : HeldN nb bf V6 := ((b9).cell (p := ⟨nb, 1, none⟩) hblt.out.2).trans hHeld
           replace HB0 := Lib.hid (HB0.out.trans (b9))
           have HO73 := Lib.hid o73
           clear o73 k73 n73 b9 HO65
           refine hK.out _ _ hHeld (fun hHeld => ?_)
           clear hK K
           try simp only [Act.put, List.setIfInBounds_toArray, List.set_cons_zero, List.set_cons_succ]
           refine take_yes (i := 21) (d := (some 74)) (v := ?_) rfl (by kernel_rfl) (by kernel_rfl) (by kernel_rfl) rfl (fun _ _ _ h => h) (by rfl) (by assumption) ?_ ?_
           rotate_left
           · (intro w hSw; (try dsimp only at hSw); go_simp; try with_reducible rfl)
           try simp only [Act.put, List.setIfInBounds_toArray, List.set_cons_zero, List.set_cons_succ]
           refine take_yes (i := 22) (d := (some 75)) (v := ?_) rfl (by kernel_rfl) (by kernel_rfl) (by kernel_rfl) rfl (fun _ _ _ h => h) (by rfl) (by assumption) ?_ ?_
           rotate_left
           · (intro w hSw; (try dsimp only at hSw); go_simp; try with_reducible rfl)
           try simp only [Act.put, List.setIfInBounds_toArray, List.set_cons_zero, List.set_cons_succ]
           refine wpAnyH_ready (rs := [23]) (by kernel_rfl) (by simp) ?_
           refine (AllReadyH.cons (o := _) rfl (fun K hK => ?_) AllReadyH.nil)
           have fz := frozen_of_row V6 _ 2 _ _ ((HB0.out.block bf hblt.out.1).trans HA.out.hf)
           go_simp
           refine hK.out _ _ ((World.cell?_setCell_far _ _ _ _ hnbf.out).trans hHeld) (fun hHeld => ?_)
           clear fz
           clear hK K
           try simp only [Act.put, List.setIfInBounds_toArray, List.set_cons_zero, List.set_cons_succ]
           refine wpAnyH_done (by kernel_rfl) ?_ _
           go_step
           go_step
           go_meet
           case rel => exact ⟨rfl, Lib.hid ⟨_, _, _, rfl, HO73.out, HB0.out⟩⟩
       · skip
         go_simp
         refine hK.out _ _ hHeld (fun hHeld => ?_)
         clear hK K
         try simp only [Act.put, List.setIfInBounds_toArray, List.set_cons_zero, List.set_cons_succ]
         refine take_yes (i := 19) (d := (some 72)) (v := ?_) rfl (by kernel_rfl) (by kernel_rfl) (by kernel_rfl) rfl (fun _ _ _ h => h) (by rfl) (by assumption) ?_ ?_
         rotate_left
         · (intro w hSw; (try dsimp only at hSw); go_simp; try with_reducible rfl)
         try simp only [Act.put, List.setIfInBounds_toArray, List.set_cons_zero, List.set_cons_succ]
         refine wpAnyH_ready (rs := [11]) (by kernel_rfl) (by simp) ?_
         refine (AllReadyH.cons (o := _) rfl (fun K hK => ?_) AllReadyH.nil)
         go_simp
         have b8 : Below V1.heap.size V1 (V1.alloc (.cells #[.int .i64 1, .int .i64 0, .int .i64 0, .slice none 0 0] 33)) := (Below.refl _ _).alloc (Nat.le_refl _) _
         have r9 : RowAt (V1.alloc (.cells #[.int .i64 1, .int .i64 0, .int .i64 0, .slice none 0 0] 33)) 4 (.slice (some ⟨V1.heap.size, 0, none⟩) 1 1) [Ins.cells ⟨1, 0, 0⟩] := row_new V1 33 (Ins.cells ⟨1, 0, 0⟩)
         generalize hg9 : V1.heap.size = g64 at r9 ⊢
         obtain ⟨V7, hV9⟩ : ∃ V, V1.alloc (.cells #[.int .i64 1, .int .i64 0, .int .i64 0, .slice none 0 0] 33) = V := ⟨_, rfl⟩
         rw [hV9] at b8 r9 ⊢
         have b9 := b8.mono HB0.out.size
         replace p2 := (b9).cell (p := ⟨bf, 2, none⟩) hblt.out.1 |>.trans p2
         replace hHeld : HeldN nb bf V7 := ((b9).cell (p := ⟨nb, 1, none⟩) hblt.out.2).trans hHeld
         replace HB0 := Lib.hid (HB0.out.trans (b9))
         replace HO62 := Lib.hid (HO62.out.later b8)
         have HR64 := Lib.hid r9
         clear b8 b9 r9 hg9 hV9
         refine hK.out _ _ hHeld (fun hHeld => ?_)
         clear hK K
         try simp only [Act.put, List.setIfInBounds_toArray, List.set_cons_zero, List.set_cons_succ]
         refine wpAnyH_ready (rs := [12]) (by kernel_rfl) (by simp) ?_
         refine (AllReadyH.cons (o := _) rfl (fun K hK => ?_) AllReadyH.nil)
         refine step_app ty_ins (rows := (C.map Ins.cells).take k) (rows2 := [Ins.cells ⟨1, 0, 0⟩]) rfl _ _ rfl rfl HO62.out rfl HR64.out (fun r hr u hu => by rw [List.mem_singleton.1 hr] at hu; exact ins_cells_one _ u hu) (by have h3 := HL1.out; have h1 := HKL.out; have h2 := HLN.out; exact ⟨by simp only [List.length_cons, List.length_nil]; omega, by decide⟩) HB0.out.size ?_
         intro a65 c65 V8 o65 k65 n65
         rw [show ((C.map Ins.cells).take k).length + ([Ins.cells ⟨1, 0, 0⟩] : List (List Value)).length = k + 1 by rw [HL1.out]; rfl] at o65 n65 ⊢
         have b9 := own_below HO62.out k65 HB0.out.size
         replace p2 := (b9).cell (p := ⟨bf, 2, none⟩) hblt.out.1 |>.trans p2
         replace hHeld : HeldN nb bf V8 := ((b9).cell (p := ⟨nb, 1, none⟩) hblt.out.2).trans hHeld
         replace HB0 := Lib.hid (HB0.out.trans (b9))
         have HO65 := Lib.hid o65
         clear o65 k65 n65 b9 HO62 HR64
         refine hK.out _ _ hHeld (fun hHeld => ?_)
         clear hK K
         try simp only [Act.put, List.setIfInBounds_toArray, List.set_cons_zero, List.set_cons_succ]
         refine wpAnyH_ready (rs := [20]) (by kernel_rfl) (by simp) ?_
         refine (AllReadyH.cons (o := _) rfl (fun K hK => ?_) AllReadyH.nil)
         refine step_app ty_ins (rows := (C.map Ins.cells).take k ++ [Ins.cells ⟨1, 0, 0⟩]) (rows2 := (C.map Ins.cells).drop k) rfl _ _ rfl rfl HO65.out rfl (HR2.out.later HB0.out) HO2.out (by have h4 := HL2.out; have h3 := HL1.out; have h1 := HKL.out; have h2 := HLN.out; exact ⟨by simp only [List.length_cons, List.length_nil, List.length_append]; omega, by decide⟩) HB0.out.size ?_
         intro a73 c73 V9 o73 k73 n73
         rw [show ((C.map Ins.cells).take k ++ [Ins.cells ⟨1, 0, 0⟩]).length + ((C.map Ins.cells).drop k).length = C.length + 1 by rw [List.length_append, HL1.out, HL2.out]; have h1 := HKL.out; simp only [List.length_cons, List.length_nil]; omega] at o73 n73 ⊢
         have b9 := own_below HO65.out k73 HB0.out.size
         replace p2 := (b9).cell (p := ⟨bf, 2, none⟩) hblt.out.1 |>.trans p2
         replace hHeld : HeldN nb bf V9 := ((b9).cell (p := ⟨nb, 1, none⟩) hblt.out.2).trans hHeld
         replace HB0 := Lib.hid (HB0.out.trans (b9))
         have HO73 := Lib.hid o73
         clear o73 k73 n73 b9 HO65
         refine hK.out _ _ hHeld (fun hHeld => ?_)
         clear hK K
         try simp only [Act.put, List.setIfInBounds_toArray, List.set_cons_zero, List.set_cons_succ]
         refine take_yes (i := 21) (d := (some 74)) (v := ?_) rfl (by kernel_rfl) (by kernel_rfl) (by kernel_rfl) rfl (fun _ _ _ h => h) (by rfl) (by assumption) ?_ ?_
         rotate_left
         · (intro w hSw; (try dsimp only at hSw); go_simp; try with_reducible rfl)
         try simp only [Act.put, List.setIfInBounds_toArray, List.set_cons_zero, List.set_cons_succ]
         refine take_yes (i := 22) (d := (some 75)) (v := ?_) rfl (by kernel_rfl) (by kernel_rfl) (by kernel_rfl) rfl (fun _ _ _ h => h) (by rfl) (by assumption) ?_ ?_
         rotate_left
         · (intro w hSw; (try dsimp only at hSw); go_simp; try with_reducible rfl)
         try simp only [Act.put, List.setIfInBounds_toArray, List.set_cons_zero, List.set_cons_succ]
         refine wpAnyH_ready (rs := [23]) (by kernel_rfl) (by simp) ?_
         refine (AllReadyH.cons (o := _) rfl (fun K hK => ?_) AllReadyH.nil)
         have fz := frozen_of_row V9 _ 2 _ _ ((HB0.out.block bf hblt.out.1).trans HA.out.hf)
         go_simp
         refine hK.out _ _ ((World.cell?_setCell_far _ _ _ _ hnbf.out).trans hHeld) (fun hHeld => ?_)
         clear fz
         clear hK K
         try simp only [Act.put, List.setIfInBounds_toArray, List.set_cons_zero, List.set_cons_succ]
         refine wpAnyH_done (by kernel_rfl) ?_ _
         go_step
         go_step
         go_meet
         case rel => exact ⟨rfl, Lib.hid ⟨_, _, _, rfl, HO73.out, HB0.out⟩⟩
     · skip
       go_simp
       have b8 : Below V0.heap.size V0 (V0.alloc (.cells #[.int .i64 1, .int .i64 0, .int .i64 0, .slice none 0 0] 33)) := (Below.refl _ _).alloc (Nat.le_refl _) _
       have r9 : RowAt (V0.alloc (.cells #[.int .i64 1, .int .i64 0, .int .i64 0, .slice none 0 0] 33)) 4 (.slice (some ⟨V0.heap.size, 0, none⟩) 1 1) [Ins.cells ⟨1, 0, 0⟩] := row_new V0 33 (Ins.cells ⟨1, 0, 0⟩)
       generalize hg9 : V0.heap.size = g64 at r9 ⊢
       obtain ⟨V10, hV9⟩ : ∃ V, V0.alloc (.cells #[.int .i64 1, .int .i64 0, .int .i64 0, .slice none 0 0] 33) = V := ⟨_, rfl⟩
       rw [hV9] at b8 r9 ⊢
       have b9 := b8.mono HB0.out.size
       replace p2 := (b9).cell (p := ⟨bf, 2, none⟩) hblt.out.1 |>.trans p2
       replace hHeld : HeldN nb bf V10 := ((b9).cell (p := ⟨nb, 1, none⟩) hblt.out.2).trans hHeld
       replace HB0 := Lib.hid (HB0.out.trans (b9))
       have HR64 := Lib.hid r9
       clear b8 b9 r9 hg9 hV9
       refine hK.out _ _ hHeld (fun hHeld => ?_)
       clear hK K
       try simp only [Act.put, List.setIfInBounds_toArray, List.set_cons_zero, List.set_cons_succ]
       refine wpAnyH_ready (rs := [9, 17]) (by kernel_rfl) (by simp) ?_
       refine (AllReadyH.cons (o := _) rfl (fun K hK => ?_) (AllReadyH.cons (o := _) rfl (fun K hK => ?_) AllReadyH.nil))
       · skip
         refine step_app ty_ins rfl _ _ rfl rfl (own_nil V10 W6.heap.size _ _) rfl (HR1.out.later HB0.out) HO1.out (by rw [HL1.out]; have h1 := HKL.out; have h2 := HLN.out; exact ⟨by simp; omega, by decide⟩) HB0.out.size ?_
         intro a62 c62 V11 o62 k62 n62
         rw [show ([] : List (List Value)).length + ((C.map Ins.cells).take k).length = k by rw [HL1.out]; simp] at o62 n62 ⊢
         rw [List.nil_append] at o62
         have b9 := own_below (own_nil V10 W6.heap.size 33 4) k62 HB0.out.size
         have b8 : Below V10.heap.size V10 V11 := k62.below (fun j hj => by cases hj) (Nat.le_refl _)
         replace p2 := (b9).cell (p := ⟨bf, 2, none⟩) hblt.out.1 |>.trans p2
         replace hHeld : HeldN nb bf V11 := ((b9).cell (p := ⟨nb, 1, none⟩) hblt.out.2).trans hHeld
         replace HB0 := Lib.hid (HB0.out.trans (b9))
         replace HR64 := Lib.hid (HR64.out.later b8)
         have HO62 := Lib.hid o62
         clear o62 k62 n62 b9 b8
         refine hK.out _ _ hHeld (fun hHeld => ?_)
         clear hK K
         try simp only [Act.put, List.setIfInBounds_toArray, List.set_cons_zero, List.set_cons_succ]
         refine wpAnyH_ready (rs := [12, 17]) (by kernel_rfl) (by simp) ?_
         refine (AllReadyH.cons (o := _) rfl (fun K hK => ?_) (AllReadyH.cons (o := _) rfl (fun K hK => ?_) AllReadyH.nil))
         · skip
           refine step_app ty_ins (rows := (C.map Ins.cells).take k) (rows2 := [Ins.cells ⟨1, 0, 0⟩]) rfl _ _ rfl rfl HO62.out rfl HR64.out (fun r hr u hu => by rw [List.mem_singleton.1 hr] at hu; exact ins_cells_one _ u hu) (by have h3 := HL1.out; have h1 := HKL.out; have h2 := HLN.out; exact ⟨by simp only [List.length_cons, List.length_nil]; omega, by decide⟩) HB0.out.size ?_
           intro a65 c65 V12 o65 k65 n65
           rw [show ((C.map Ins.cells).take k).length + ([Ins.cells ⟨1, 0, 0⟩] : List (List Value)).length = k + 1 by rw [HL1.out]; rfl] at o65 n65 ⊢
           have b9 := own_below HO62.out k65 HB0.out.size
           replace p2 := (b9).cell (p := ⟨bf, 2, none⟩) hblt.out.1 |>.trans p2
           replace hHeld : HeldN nb bf V12 := ((b9).cell (p := ⟨nb, 1, none⟩) hblt.out.2).trans hHeld
           replace HB0 := Lib.hid (HB0.out.trans (b9))
           have HO65 := Lib.hid o65
           clear o65 k65 n65 b9 HO62 HR64
           refine hK.out _ _ hHeld (fun hHeld => ?_)
           clear hK K
           try simp only [Act.put, List.setIfInBounds_toArray, List.set_cons_zero, List.set_cons_succ]
           refine wpAnyH_ready (rs := [17]) (by kernel_rfl) (by simp) ?_
           refine (AllReadyH.cons (o := _) rfl (fun K hK => ?_) AllReadyH.nil)
           go_simp
           refine hK.out _ _ hHeld (fun hHeld => ?_)
           clear hK K
           try simp only [Act.put, List.setIfInBounds_toArray, List.set_cons_zero, List.set_cons_succ]
           refine take_yes (i := 19) (d := (some 72)) (v := ?_) rfl (by kernel_rfl) (by kernel_rfl) (by kernel_rfl) rfl (fun _ _ _ h => h) (by rfl) (by assumption) ?_ ?_
           rotate_left
           · (intro w hSw; (try dsimp only at hSw); go_simp; try with_reducible rfl)
           try simp only [Act.put, List.setIfInBounds_toArray, List.set_cons_zero, List.set_cons_succ]
           refine wpAnyH_ready (rs := [20]) (by kernel_rfl) (by simp) ?_
           refine (AllReadyH.cons (o := _) rfl (fun K hK => ?_) AllReadyH.nil)
           refine step_app ty_ins (rows := (C.map Ins.cells).take k ++ [Ins.cells ⟨1, 0, 0⟩]) (rows2 := (C.map Ins.cells).drop k) rfl _ _ rfl rfl HO65.out rfl (HR2.out.later HB0.out) HO2.out (by have h4 := HL2.out; have h3 := HL1.out; have h1 := HKL.out; have h2 := HLN.out; exact ⟨by simp only [List.length_cons, List.length_nil, List.length_append]; omega, by decide⟩) HB0.out.size ?_
           intro a73 c73 V13 o73 k73 n73
           rw [show ((C.map Ins.cells).take k ++ [Ins.cells ⟨1, 0, 0⟩]).length + ((C.map Ins.cells).drop k).length = C.length + 1 by rw [List.length_append, HL1.out, HL2.out]; have h1 := HKL.out; simp only [List.length_cons, List.length_nil]; omega] at o73 n73 ⊢
           have b9 := own_below HO65.out k73 HB0.out.size
           replace p2 := (b9).cell (p := ⟨bf, 2, none⟩) hblt.out.1 |>.trans p2
           replace hHeld : HeldN nb bf V13 := ((b9).cell (p := ⟨nb, 1, none⟩) hblt.out.2).trans hHeld
           replace HB0 := Lib.hid (HB0.out.trans (b9))
           have HO73 := Lib.hid o73
           clear o73 k73 n73 b9 HO65
           refine hK.out _ _ hHeld (fun hHeld => ?_)
           clear hK K
           try simp only [Act.put, List.setIfInBounds_toArray, List.set_cons_zero, List.set_cons_succ]
           refine take_yes (i := 21) (d := (some 74)) (v := ?_) rfl (by kernel_rfl) (by kernel_rfl) (by kernel_rfl) rfl (fun _ _ _ h => h) (by rfl) (by assumption) ?_ ?_
           rotate_left
           · (intro w hSw; (try dsimp only at hSw); go_simp; try with_reducible rfl)
           try simp only [Act.put, List.setIfInBounds_toArray, List.set_cons_zero, List.set_cons_succ]
           refine take_yes (i := 22) (d := (some 75)) (v := ?_) rfl (by kernel_rfl) (by kernel_rfl) (by kernel_rfl) rfl (fun _ _ _ h => h) (by rfl) (by assumption) ?_ ?_
           rotate_left
           · (intro w hSw; (try dsimp only at hSw); go_simp; try with_reducible rfl)
           try simp only [Act.put, List.setIfInBounds_toArray, List.set_cons_zero, List.set_cons_succ]
           refine wpAnyH_ready (rs := [23]) (by kernel_rfl) (by simp) ?_
           refine (AllReadyH.cons (o := _) rfl (fun K hK => ?_) AllReadyH.nil)
           have fz := frozen_of_row V13 _ 2 _ _ ((HB0.out.block bf hblt.out.1).trans HA.out.hf)
           go_simp
           refine hK.out _ _ ((World.cell?_setCell_far _ _ _ _ hnbf.out).trans hHeld) (fun hHeld => ?_)
           clear fz
           clear hK K
           try simp only [Act.put, List.setIfInBounds_toArray, List.set_cons_zero, List.set_cons_succ]
           refine wpAnyH_done (by kernel_rfl) ?_ _
           go_step
           go_step
           go_meet
           case rel => exact ⟨rfl, Lib.hid ⟨_, _, _, rfl, HO73.out, HB0.out⟩⟩
         · skip
           go_simp
           refine hK.out _ _ hHeld (fun hHeld => ?_)
           clear hK K
           try simp only [Act.put, List.setIfInBounds_toArray, List.set_cons_zero, List.set_cons_succ]
           refine take_yes (i := 19) (d := (some 72)) (v := ?_) rfl (by kernel_rfl) (by kernel_rfl) (by kernel_rfl) rfl (fun _ _ _ h => h) (by rfl) (by assumption) ?_ ?_
           rotate_left
           · (intro w hSw; (try dsimp only at hSw); go_simp; try with_reducible rfl)
           try simp only [Act.put, List.setIfInBounds_toArray, List.set_cons_zero, List.set_cons_succ]
           refine wpAnyH_ready (rs := [12]) (by kernel_rfl) (by simp) ?_
           refine (AllReadyH.cons (o := _) rfl (fun K hK => ?_) AllReadyH.nil)
           refine step_app ty_ins (rows := (C.map Ins.cells).take k) (rows2 := [Ins.cells ⟨1, 0, 0⟩]) rfl _ _ rfl rfl HO62.out rfl HR64.out (fun r hr u hu => by rw [List.mem_singleton.1 hr] at hu; exact ins_cells_one _ u hu) (by have h3 := HL1.out; have h1 := HKL.out; have h2 := HLN.out; exact ⟨by simp only [List.length_cons, List.length_nil]; omega, by decide⟩) HB0.out.size ?_
           intro a65 c65 V14 o65 k65 n65
           rw [show ((C.map Ins.cells).take k).length + ([Ins.cells ⟨1, 0, 0⟩] : List (List Value)).length = k + 1 by rw [HL1.out]; rfl] at o65 n65 ⊢
           have b9 := own_below HO62.out k65 HB0.out.size
           replace p2 := (b9).cell (p := ⟨bf, 2, none⟩) hblt.out.1 |>.trans p2
           replace hHeld : HeldN nb bf V14 := ((b9).cell (p := ⟨nb, 1, none⟩) hblt.out.2).trans hHeld
           replace HB0 := Lib.hid (HB0.out.trans (b9))
           have HO65 := Lib.hid o65
           clear o65 k65 n65 b9 HO62 HR64
           refine hK.out _ _ hHeld (fun hHeld => ?_)
           clear hK K
           try simp only [Act.put, List.setIfInBounds_toArray, List.set_cons_zero, List.set_cons_succ]
           refine wpAnyH_ready (rs := [20]) (by kernel_rfl) (by simp) ?_
           refine (AllReadyH.cons (o := _) rfl (fun K hK => ?_) AllReadyH.nil)
           refine step_app ty_ins (rows := (C.map Ins.cells).take k ++ [Ins.cells ⟨1, 0, 0⟩]) (rows2 := (C.map Ins.cells).drop k) rfl _ _ rfl rfl HO65.out rfl (HR2.out.later HB0.out) HO2.out (by have h4 := HL2.out; have h3 := HL1.out; have h1 := HKL.out; have h2 := HLN.out; exact ⟨by simp only [List.length_cons, List.length_nil, List.length_append]; omega, by decide⟩) HB0.out.size ?_
           intro a73 c73 V15 o73 k73 n73
           rw [show ((C.map Ins.cells).take k ++ [Ins.cells ⟨1, 0, 0⟩]).length + ((C.map Ins.cells).drop k).length = C.length + 1 by rw [List.length_append, HL1.out, HL2.out]; have h1 := HKL.out; simp only [List.length_cons, List.length_nil]; omega] at o73 n73 ⊢
           have b9 := own_below HO65.out k73 HB0.out.size
           replace p2 := (b9).cell (p := ⟨bf, 2, none⟩) hblt.out.1 |>.trans p2
           replace hHeld : HeldN nb bf V15 := ((b9).cell (p := ⟨nb, 1, none⟩) hblt.out.2).trans hHeld
           replace HB0 := Lib.hid (HB0.out.trans (b9))
           have HO73 := Lib.hid o73
           clear o73 k73 n73 b9 HO65
           refine hK.out _ _ hHeld (fun hHeld => ?_)
           clear hK K
           try simp only [Act.put, List.setIfInBounds_toArray, List.set_cons_zero, List.set_cons_succ]
           refine take_yes (i := 21) (d := (some 74)) (v := ?_) rfl (by kernel_rfl) (by kernel_rfl) (by kernel_rfl) rfl (fun _ _ _ h => h) (by rfl) (by assumption) ?_ ?_
           rotate_left
           · (intro w hSw; (try dsimp only at hSw); go_simp; try with_reducible rfl)
           try simp only [Act.put, List.setIfInBounds_toArray, List.set_cons_zero, List.set_cons_succ]
           refine take_yes (i := 22) (d := (some 75)) (v := ?_) rfl (by kernel_rfl) (by kernel_rfl) (by kernel_rfl) rfl (fun _ _ _ h => h) (by rfl) (by assumption) ?_ ?_
           rotate_left
           · (intro w hSw; (try dsimp only at hSw); go_simp; try with_reducible rfl)
           try simp only [Act.put, List.setIfInBounds_toArray, List.set_cons_zero, List.set_cons_succ]
           refine wpAnyH_ready (rs := [23]) (by kernel_rfl) (by simp) ?_
           refine (AllReadyH.cons (o := _) rfl (fun K hK => ?_) AllReadyH.nil)
           have fz := frozen_of_row V15 _ 2 _ _ ((HB0.out.block bf hblt.out.1).trans HA.out.hf)
           go_simp
           refine hK.out _ _ ((World.cell?_setCell_far _ _ _ _ hnbf.out).trans hHeld) (fun hHeld => ?_)
           clear fz
           clear hK K
           try simp only [Act.put, List.setIfInBounds_toArray, List.set_cons_zero, List.set_cons_succ]
           refine wpAnyH_done (by kernel_rfl) ?_ _
           go_step
           go_step
           go_meet
           case rel => exact ⟨rfl, Lib.hid ⟨_, _, _, rfl, HO73.out, HB0.out⟩⟩
       · skip
         go_simp
         refine hK.out _ _ hHeld (fun hHeld => ?_)
         clear hK K
         try simp only [Act.put, List.setIfInBounds_toArray, List.set_cons_zero, List.set_cons_succ]
         refine take_yes (i := 19) (d := (some 72)) (v := ?_) rfl (by kernel_rfl) (by kernel_rfl) (by kernel_rfl) rfl (fun _ _ _ h => h) (by rfl) (by assumption) ?_ ?_
         rotate_left
         · (intro w hSw; (try dsimp only at hSw); go_simp; try with_reducible rfl)
         try simp only [Act.put, List.setIfInBounds_toArray, List.set_cons_zero, List.set_cons_succ]
         refine wpAnyH_ready (rs := [9]) (by kernel_rfl) (by simp) ?_
         refine (AllReadyH.cons (o := _) rfl (fun K hK => ?_) AllReadyH.nil)
         refine step_app ty_ins rfl _ _ rfl rfl (own_nil V10 W6.heap.size _ _) rfl (HR1.out.later HB0.out) HO1.out (by rw [HL1.out]; have h1 := HKL.out; have h2 := HLN.out; exact ⟨by simp; omega, by decide⟩) HB0.out.size ?_
         intro a62 c62 V16 o62 k62 n62
         rw [show ([] : List (List Value)).length + ((C.map Ins.cells).take k).length = k by rw [HL1.out]; simp] at o62 n62 ⊢
         rw [List.nil_append] at o62
         have b9 := own_below (own_nil V10 W6.heap.size 33 4) k62 HB0.out.size
         have b8 : Below V10.heap.size V10 V16 := k62.below (fun j hj => by cases hj) (Nat.le_refl _)
         replace p2 := (b9).cell (p := ⟨bf, 2, none⟩) hblt.out.1 |>.trans p2
         replace hHeld : HeldN nb bf V16 := ((b9).cell (p := ⟨nb, 1, none⟩) hblt.out.2).trans hHeld
         replace HB0 := Lib.hid (HB0.out.trans (b9))
         replace HR64 := Lib.hid (HR64.out.later b8)
         have HO62 := Lib.hid o62
         clear o62 k62 n62 b9 b8
         refine hK.out _ _ hHeld (fun hHeld => ?_)
         clear hK K
         try simp only [Act.put, List.setIfInBounds_toArray, List.set_cons_zero, List.set_cons_succ]
         refine wpAnyH_ready (rs := [12]) (by kernel_rfl) (by simp) ?_
         refine (AllReadyH.cons (o := _) rfl (fun K hK => ?_) AllReadyH.nil)
         refine step_app ty_ins (rows := (C.map Ins.cells).take k) (rows2 := [Ins.cells ⟨1, 0, 0⟩]) rfl _ _ rfl rfl HO62.out rfl HR64.out (fun r hr u hu => by rw [List.mem_singleton.1 hr] at hu; exact ins_cells_one _ u hu) (by have h3 := HL1.out; have h1 := HKL.out; have h2 := HLN.out; exact ⟨by simp only [List.length_cons, List.length_nil]; omega, by decide⟩) HB0.out.size ?_
         intro a65 c65 V17 o65 k65 n65
         rw [show ((C.map Ins.cells).take k).length + ([Ins.cells ⟨1, 0, 0⟩] : List (List Value)).length = k + 1 by rw [HL1.out]; rfl] at o65 n65 ⊢
         have b9 := own_below HO62.out k65 HB0.out.size
         replace p2 := (b9).cell (p := ⟨bf, 2, none⟩) hblt.out.1 |>.trans p2
         replace hHeld : HeldN nb bf V17 := ((b9).cell (p := ⟨nb, 1, none⟩) hblt.out.2).trans hHeld
         replace HB0 := Lib.hid (HB0.out.trans (b9))
         have HO65 := Lib.hid o65
         clear o65 k65 n65 b9 HO62 HR64
         refine hK.out _ _ hHeld (fun hHeld => ?_)
         clear hK K
         try simp only [Act.put, List.setIfInBounds_toArray, List.set_cons_zero, List.set_cons_succ]
         refine wpAnyH_ready (rs := [20]) (by kernel_rfl) (by simp) ?_
         refine (AllReadyH.cons (o := _) rfl (fun K hK => ?_) AllReadyH.nil)
         refine step_app ty_ins (rows := (C.map Ins.cells).take k ++ [Ins.cells ⟨1, 0, 0⟩]) (rows2 := (C.map Ins.cells).drop k) rfl _ _ rfl rfl HO65.out rfl (HR2.out.later HB0.out) HO2.out (by have h4 := HL2.out; have h3 := HL1.out; have h1 := HKL.out; have h2 := HLN.out; exact ⟨by simp only [List.length_cons, List.length_nil, List.length_append]; omega, by decide⟩) HB0.out.size ?_
         intro a73 c73 V18 o73 k73 n73
         rw [show ((C.map Ins.cells).take k ++ [Ins.cells ⟨1, 0, 0⟩]).length + ((C.map Ins.cells).drop k).length = C.length + 1 by rw [List.length_append, HL1.out, HL2.out]; have h1 := HKL.out; simp only [List.length_cons, List.length_nil]; omega] at o73 n73 ⊢
         have b9 := own_below HO65.out k73 HB0.out.size
         replace p2 := (b9).cell (p := ⟨bf, 2, none⟩) hblt.out.1 |>.trans p2
         replace hHeld : HeldN nb bf V18 := ((b9).cell (p := ⟨nb, 1, none⟩) hblt.out.2).trans hHeld
         replace HB0 := Lib.hid (HB0.out.trans (b9))
         have HO73 := Lib.hid o73
         clear o73 k73 n73 b9 HO65
         refine hK.out _ _ hHeld (fun hHeld => ?_)
         clear hK K
         try simp only [Act.put, List.setIfInBounds_toArray, List.set_cons_zero, List.set_cons_succ]
         refine take_yes (i := 21) (d := (some 74)) (v := ?_) rfl (by kernel_rfl) (by kernel_rfl) (by kernel_rfl) rfl (fun _ _ _ h => h) (by rfl) (by assumption) ?_ ?_
         rotate_left
         · (intro w hSw; (try dsimp only at hSw); go_simp; try with_reducible rfl)
         try simp only [Act.put, List.setIfInBounds_toArray, List.set_cons_zero, List.set_cons_succ]
         refine take_yes (i := 22) (d := (some 75)) (v := ?_) rfl (by kernel_rfl) (by kernel_rfl) (by kernel_rfl) rfl (fun _ _ _ h => h) (by rfl) (by assumption) ?_ ?_
         rotate_left
         · (intro w hSw; (try dsimp only at hSw); go_simp; try with_reducible rfl)
         try simp only [Act.put, List.setIfInBounds_toArray, List.set_cons_zero, List.set_cons_succ]
         refine wpAnyH_ready (rs := [23]) (by kernel_rfl) (by simp) ?_
         refine (AllReadyH.cons (o := _) rfl (fun K hK => ?_) AllReadyH.nil)
         have fz := frozen_of_row V18 _ 2 _ _ ((HB0.out.block bf hblt.out.1).trans HA.out.hf)
         go_simp
         refine hK.out _ _ ((World.cell?_setCell_far _ _ _ _ hnbf.out).trans hHeld) (fun hHeld => ?_)
         clear fz
         clear hK K
         try simp only [Act.put, List.setIfInBounds_toArray, List.set_cons_zero, List.set_cons_succ]
         refine wpAnyH_done (by kernel_rfl) ?_ _
         go_step
         go_step
         go_meet
         case rel => exact ⟨rfl, Lib.hid ⟨_, _, _, rfl, HO73.out, HB0.out⟩⟩
     · skip
       go_simp
       refine hK.out _ _ hHeld (fun hHeld => ?_)
       clear hK K
       try simp only [Act.put, List.setIfInBounds_toArray, List.set_cons_zero, List.set_cons_succ]
       refine take_yes (i := 19) (d := (some 72)) (v := ?_) rfl (by kernel_rfl) (by kernel_rfl) (by kernel_rfl) rfl (fun _ _ _ h => h) (by rfl) (by assumption) ?_ ?_
       rotate_left
       · (intro w hSw; (try dsimp only at hSw); go_simp; try with_reducible rfl)
       try simp only [Act.put, List.setIfInBounds_toArray, List.set_cons_zero, List.set_cons_succ]
       refine wpAnyH_ready (rs := [9, 11]) (by kernel_rfl) (by simp) ?_
       refine (AllReadyH.cons (o := _) rfl (fun K hK => ?_) (AllReadyH.cons (o := _) rfl (fun K hK => ?_) AllReadyH.nil))
       · skip
         refine step_app ty_ins rfl _ _ rfl rfl (own_nil V0 W6.heap.size _ _) rfl (HR1.out.later HB0.out) HO1.out (by rw [HL1.out]; have h1 := HKL.out; have h2 := HLN.out; exact ⟨by simp; omega, by decide⟩) HB0.out.size ?_
         intro a62 c62 V19 o62 k62 n62
         rw [show ([] : List (List Value)).length + ((C.map Ins.cells).take k).length = k by rw [HL1.out]; simp] at o62 n62 ⊢
         rw [List.nil_append] at o62
         have b9 := own_below (own_nil V0 W6.heap.size 33 4) k62 HB0.out.size
         have b8 : Below V0.heap.size V0 V19 := k62.below (fun j hj => by cases hj) (Nat.le_refl _)
         replace p2 := (b9).cell (p := ⟨bf, 2, none⟩) hblt.out.1 |>.trans p2
         replace hHeld : HeldN nb bf V19 := ((b9).cell (p := ⟨nb, 1, none⟩) hblt.out.2).trans hHeld
         replace HB0 := Lib.hid (HB0.out.trans (b9))
         have HO62 := Lib.hid o62
         clear o62 k62 n62 b9 b8
         refine hK.out _ _ hHeld (fun hHeld => ?_)
         clear hK K
         try simp only [Act.put, List.setIfInBounds_toArray, List.set_cons_zero, List.set_cons_succ]
         refine wpAnyH_ready (rs := [11]) (by kernel_rfl) (by simp) ?_
         refine (AllReadyH.cons (o := _) rfl (fun K hK => ?_) AllReadyH.nil)
         go_simp
         have b8 : Below V19.heap.size V19 (V19.alloc (.cells #[.int .i64 1, .int .i64 0, .int .i64 0, .slice none 0 0] 33)) := (Below.refl _ _).alloc (Nat.le_refl _) _
         have r9 : RowAt (V19.alloc (.cells #[.int .i64 1, .int .i64 0, .int .i64 0, .slice none 0 0] 33)) 4 (.slice (some ⟨V19.heap.size, 0, none⟩) 1 1) [Ins.cells ⟨1, 0, 0⟩] := row_new V19 33 (Ins.cells ⟨1, 0, 0⟩)
         generalize hg9 : V19.heap.size = g64 at r9 ⊢
         obtain ⟨V20, hV9⟩ : ∃ V, V19.alloc (.cells #[.int .i64 1, .int .i64 0, .int .i64 0, .slice none 0 0] 33) = V := ⟨_, rfl⟩
         rw [hV9] at b8 r9 ⊢
         have b9 := b8.mono HB0.out.size
         replace p2 := (b9).cell (p := ⟨bf, 2, none⟩) hblt.out.1 |>.trans p2
         replace hHeld : HeldN nb bf V20 := ((b9).cell (p := ⟨nb, 1, none⟩) hblt.out.2).trans hHeld
         replace HB0 := Lib.hid (HB0.out.trans (b9))
         replace HO62 := Lib.hid (HO62.out.later b8)
         have HR64 := Lib.hid r9
         clear b8 b9 r9 hg9 hV9
         refine hK.out _ _ hHeld (fun hHeld => ?_)
         clear hK K
         try simp only [Act.put, List.setIfInBounds_toArray, List.set_cons_zero, List.set_cons_succ]
         refine wpAnyH_ready (rs := [12]) (by kernel_rfl) (by simp) ?_
         refine (AllReadyH.cons (o := _) rfl (fun K hK => ?_) AllReadyH.nil)
         refine step_app ty_ins (rows := (C.map Ins.cells).take k) (rows2 := [Ins.cells ⟨1, 0, 0⟩]) rfl _ _ rfl rfl HO62.out rfl HR64.out (fun r hr u hu => by rw [List.mem_singleton.1 hr] at hu; exact ins_cells_one _ u hu) (by have h3 := HL1.out; have h1 := HKL.out; have h2 := HLN.out; exact ⟨by simp only [List.length_cons, List.length_nil]; omega, by decide⟩) HB0.out.size ?_
         intro a65 c65 V21 o65 k65 n65
         rw [show ((C.map Ins.cells).take k).length + ([Ins.cells ⟨1, 0, 0⟩] : List (List Value)).length = k + 1 by rw [HL1.out]; rfl] at o65 n65 ⊢
         have b9 := own_below HO62.out k65 HB0.out.size
         replace p2 := (b9).cell (p := ⟨bf, 2, none⟩) hblt.out.1 |>.trans p2
         replace hHeld : HeldN nb bf V21 := ((b9).cell (p := ⟨nb, 1, none⟩) hblt.out.2).trans hHeld
         replace HB0 := Lib.hid (HB0.out.trans (b9))
         have HO65 := Lib.hid o65
         clear o65 k65 n65 b9 HO62 HR64
         refine hK.out _ _ hHeld (fun hHeld => ?_)
         clear hK K
         try simp only [Act.put, List.setIfInBounds_toArray, List.set_cons_zero, List.set_cons_succ]
         refine wpAnyH_ready (rs := [20]) (by kernel_rfl) (by simp) ?_
         refine (AllReadyH.cons (o := _) rfl (fun K hK => ?_) AllReadyH.nil)
         refine step_app ty_ins (rows := (C.map Ins.cells).take k ++ [Ins.cells ⟨1, 0, 0⟩]) (rows2 := (C.map Ins.cells).drop k) rfl _ _ rfl rfl HO65.out rfl (HR2.out.later HB0.out) HO2.out (by have h4 := HL2.out; have h3 := HL1.out; have h1 := HKL.out; have h2 := HLN.out; exact ⟨by simp only [List.length_cons, List.length_nil, List.length_append]; omega, by decide⟩) HB0.out.size ?_
         intro a73 c73 V22 o73 k73 n73
         rw [show ((C.map Ins.cells).take k ++ [Ins.cells ⟨1, 0, 0⟩]).length + ((C.map Ins.cells).drop k).length = C.length + 1 by rw [List.length_append, HL1.out, HL2.out]; have h1 := HKL.out; simp only [List.length_cons, List.length_nil]; omega] at o73 n73 ⊢
         have b9 := own_below HO65.out k73 HB0.out.size
         replace p2 := (b9).cell (p := ⟨bf, 2, none⟩) hblt.out.1 |>.trans p2
         replace hHeld : HeldN nb bf V22 := ((b9).cell (p := ⟨nb, 1, none⟩) hblt.out.2).trans hHeld
         replace HB0 := Lib.hid (HB0.out.trans (b9))
         have HO73 := Lib.hid o73
         clear o73 k73 n73 b9 HO65
         refine hK.out _ _ hHeld (fun hHeld => ?_)
         clear hK K
         try simp only [Act.put, List.setIfInBounds_toArray, List.set_cons_zero, List.set_cons_succ]
         refine take_yes (i := 21) (d := (some 74)) (v := ?_) rfl (by kernel_rfl) (by kernel_rfl) (by kernel_rfl) rfl (fun _ _ _ h => h) (by rfl) (by assumption) ?_ ?_
         rotate_left
         · (intro w hSw; (try dsimp only at hSw); go_simp; try with_reducible rfl)
         try simp only [Act.put, List.setIfInBounds_toArray, List.set_cons_zero, List.set_cons_succ]
         refine take_yes (i := 22) (d := (some 75)) (v := ?_) rfl (by kernel_rfl) (by kernel_rfl) (by kernel_rfl) rfl (fun _ _ _ h => h) (by rfl) (by assumption) ?_ ?_
         rotate_left
         · (intro w hSw; (try dsimp only at hSw); go_simp; try with_reducible rfl)
         try simp only [Act.put, List.setIfInBounds_toArray, List.set_cons_zero, List.set_cons_succ]
         refine wpAnyH_ready (rs := [23]) (by kernel_rfl) (by simp) ?_
         refine (AllReadyH.cons (o := _) rfl (fun K hK => ?_) AllReadyH.nil)
         have fz := frozen_of_row V22 _ 2 _ _ ((HB0.out.block bf hblt.out.1).trans HA.out.hf)
         go_simp
         refine hK.out _ _ ((World.cell?_setCell_far _ _ _ _ hnbf.out).trans hHeld) (fun hHeld => ?_)
         clear fz
         clear hK K
         try simp only [Act.put, List.setIfInBounds_toArray, List.set_cons_zero, List.set_cons_succ]
         refine wpAnyH_done (by kernel_rfl) ?_ _
         go_step
         go_step
         go_meet
         case rel => exact ⟨rfl, Lib.hid ⟨_, _, _, rfl, HO73.out, HB0.out⟩⟩
       · skip
         go_simp
         have b8 : Below V0.heap.size V0 (V0.alloc (.cells #[.int .i64 1, .int .i64 0, .int .i64 0, .slice none 0 0] 33)) := (Below.refl _ _).alloc (Nat.le_refl _) _
         have r9 : RowAt (V0.alloc (.cells #[.int .i64 1, .int .i64 0, .int .i64 0, .slice none 0 0] 33)) 4 (.slice (some ⟨V0.heap.size, 0, none⟩) 1 1) [Ins.cells ⟨1, 0, 0⟩] := row_new V0 33 (Ins.cells ⟨1, 0, 0⟩)
         generalize hg9 : V0.heap.size = g64 at r9 ⊢
         obtain ⟨V23, hV9⟩ : ∃ V, V0.alloc (.cells #[.int .i64 1, .int .i64 0, .int .i64 0, .slice none 0 0] 33) = V := ⟨_, rfl⟩
         rw [hV9] at b8 r9 ⊢
         have b9 := b8.mono HB0.out.size
         replace p2 := (b9).cell (p := ⟨bf, 2, none⟩) hblt.out.1 |>.trans p2
         replace hHeld : HeldN nb bf V23 := ((b9).cell (p := ⟨nb, 1, none⟩) hblt.out.2).trans hHeld
         replace HB0 := Lib.hid (HB0.out.trans (b9))
         have HR64 := Lib.hid r9
         clear b8 b9 r9 hg9 hV9
         refine hK.out _ _ hHeld (fun hHeld => ?_)
         clear hK K
         try simp only [Act.put, List.setIfInBounds_toArray, List.set_cons_zero, List.set_cons_succ]
         refine wpAnyH_ready (rs := [9]) (by kernel_rfl) (by simp) ?_
         refine (AllReadyH.cons (o := _) rfl (fun K hK => ?_) AllReadyH.nil)
         refine step_app ty_ins rfl _ _ rfl rfl (own_nil V23 W6.heap.size _ _) rfl (HR1.out.later HB0.out) HO1.out (by rw [HL1.out]; have h1 := HKL.out; have h2 := HLN.out; exact ⟨by simp; omega, by decide⟩) HB0.out.size ?_
         intro a62 c62 V24 o62 k62 n62
         rw [show ([] : List (List Value)).length + ((C.map Ins.cells).take k).length = k by rw [HL1.out]; simp] at o62 n62 ⊢
         rw [List.nil_append] at o62
         have b9 := own_below (own_nil V23 W6.heap.size 33 4) k62 HB0.out.size
         have b8 : Below V23.heap.size V23 V24 := k62.below (fun j hj => by cases hj) (Nat.le_refl _)
         replace p2 := (b9).cell (p := ⟨bf, 2, none⟩) hblt.out.1 |>.trans p2
         replace hHeld : HeldN nb bf V24 := ((b9).cell (p := ⟨nb, 1, none⟩) hblt.out.2).trans hHeld
         replace HB0 := Lib.hid (HB0.out.trans (b9))
         replace HR64 := Lib.hid (HR64.out.later b8)
         have HO62 := Lib.hid o62
         clear o62 k62 n62 b9 b8
         refine hK.out _ _ hHeld (fun hHeld => ?_)
         clear hK K
         try simp only [Act.put, List.setIfInBounds_toArray, List.set_cons_zero, List.set_cons_succ]
         refine wpAnyH_ready (rs := [12]) (by kernel_rfl) (by simp) ?_
         refine (AllReadyH.cons (o := _) rfl (fun K hK => ?_) AllReadyH.nil)
         refine step_app ty_ins (rows := (C.map Ins.cells).take k) (rows2 := [Ins.cells ⟨1, 0, 0⟩]) rfl _ _ rfl rfl HO62.out rfl HR64.out (fun r hr u hu => by rw [List.mem_singleton.1 hr] at hu; exact ins_cells_one _ u hu) (by have h3 := HL1.out; have h1 := HKL.out; have h2 := HLN.out; exact ⟨by simp only [List.length_cons, List.length_nil]; omega, by decide⟩) HB0.out.size ?_
         intro a65 c65 V25 o65 k65 n65
         rw [show ((C.map Ins.cells).take k).length + ([Ins.cells ⟨1, 0, 0⟩] : List (List Value)).length = k + 1 by rw [HL1.out]; rfl] at o65 n65 ⊢
         have b9 := own_below HO62.out k65 HB0.out.size
         replace p2 := (b9).cell (p := ⟨bf, 2, none⟩) hblt.out.1 |>.trans p2
         replace hHeld : HeldN nb bf V25 := ((b9).cell (p := ⟨nb, 1, none⟩) hblt.out.2).trans hHeld
         replace HB0 := Lib.hid (HB0.out.trans (b9))
         have HO65 := Lib.hid o65
         clear o65 k65 n65 b9 HO62 HR64
         refine hK.out _ _ hHeld (fun hHeld => ?_)
         clear hK K
         try simp only [Act.put, List.setIfInBounds_toArray, List.set_cons_zero, List.set_cons_succ]
         refine wpAnyH_ready (rs := [20]) (by kernel_rfl) (by simp) ?_
         refine (AllReadyH.cons (o := _) rfl (fun K hK => ?_) AllReadyH.nil)
         refine step_app ty_ins (rows := (C.map Ins.cells).take k ++ [Ins.cells ⟨1, 0, 0⟩]) (rows2 := (C.map Ins.cells).drop k) rfl _ _ rfl rfl HO65.out rfl (HR2.out.later HB0.out) HO2.out (by have h4 := HL2.out; have h3 := HL1.out; have h1 := HKL.out; have h2 := HLN.out; exact ⟨by simp only [List.length_cons, List.length_nil, List.length_append]; omega, by decide⟩) HB0.out.size ?_
         intro a73 c73 V26 o73 k73 n73
         rw [show ((C.map Ins.cells).take k ++ [Ins.cells ⟨1, 0, 0⟩]).length + ((C.map Ins.cells).drop k).length = C.length + 1 by rw [List.length_append, HL1.out, HL2.out]; have h1 := HKL.out; simp only [List.length_cons, List.length_nil]; omega] at o73 n73 ⊢
         have b9 := own_below HO65.out k73 HB0.out.size
         replace p2 := (b9).cell (p := ⟨bf, 2, none⟩) hblt.out.1 |>.trans p2
         replace hHeld : HeldN nb bf V26 := ((b9).cell (p := ⟨nb, 1, none⟩) hblt.out.2).trans hHeld
         replace HB0 := Lib.hid (HB0.out.trans (b9))
         have HO73 := Lib.hid o73
         clear o73 k73 n73 b9 HO65
         refine hK.out _ _ hHeld (fun hHeld => ?_)
         clear hK K
         try simp only [Act.put, List.setIfInBounds_toArray, List.set_cons_zero, List.set_cons_succ]
         refine take_yes (i := 21) (d := (some 74)) (v := ?_) rfl (by kernel_rfl) (by kernel_rfl) (by kernel_rfl) rfl (fun _ _ _ h => h) (by rfl) (by assumption) ?_ ?_
         rotate_left
         · (intro w hSw; (try dsimp only at hSw); go_simp; try with_reducible rfl)
         try simp only [Act.put, List.setIfInBounds_toArray, List.set_cons_zero, List.set_cons_succ]
         refine take_yes (i := 22) (d := (some 75)) (v := ?_) rfl (by kernel_rfl) (by kernel_rfl) (by kernel_rfl) rfl (fun _ _ _ h => h) (by rfl) (by assumption) ?_ ?_
         rotate_left
         · (intro w hSw; (try dsimp only at hSw); go_simp; try with_reducible rfl)
         try simp only [Act.put, List.setIfInBounds_toArray, List.set_cons_zero, List.set_cons_succ]
         refine wpAnyH_ready (rs := [23]) (by kernel_rfl) (by simp) ?_
         refine (AllReadyH.cons (o := _) rfl (fun K hK => ?_) AllReadyH.nil)
         have fz := frozen_of_row V26 _ 2 _ _ ((HB0.out.block bf hblt.out.1).trans HA.out.hf)
         go_simp
         refine hK.out _ _ ((World.cell?_setCell_far _ _ _ _ hnbf.out).trans hHeld) (fun hHeld => ?_)
         clear fz
         clear hK K
         try simp only [Act.put, List.setIfInBounds_toArray, List.set_cons_zero, List.set_cons_succ]
         refine wpAnyH_done (by kernel_rfl) ?_ _
         go_step
         go_step
         go_meet
         case rel => exact ⟨rfl, Lib.hid ⟨_, _, _, rfl, HO73.out, HB0.out⟩⟩
   · skip
     go_simp
     have b8 : Below V0.heap.size V0 (V0.alloc (.cells #[.int .i64 1, .int .i64 0, .int .i64 0, .slice none 0 0] 33)) := (Below.refl _ _).alloc (Nat.le_refl _) _
     have r9 : RowAt (V0.alloc (.cells #[.int .i64 1, .int .i64 0, .int .i64 0, .slice none 0 0] 33)) 4 (.slice (some ⟨V0.heap.size, 0, none⟩) 1 1) [Ins.cells ⟨1, 0, 0⟩] := row_new V0 33 (Ins.cells ⟨1, 0, 0⟩)
     generalize hg9 : V0.heap.size = g64 at r9 ⊢
     obtain ⟨V27, hV9⟩ : ∃ V, V0.alloc (.cells #[.int .i64 1, .int .i64 0, .int .i64 0, .slice none 0 0] 33) = V := ⟨_, rfl⟩
     rw [hV9] at b8 r9 ⊢
     have b9 := b8.mono HB0.out.size
     replace p2 := (b9).cell (p := ⟨bf, 2, none⟩) hblt.out.1 |>.trans p2
     replace hHeld : HeldN nb bf V27 := ((b9).cell (p := ⟨nb, 1, none⟩) hblt.out.2).trans hHeld
     replace HB0 := Lib.hid (HB0.out.trans (b9))
     have HR64 := Lib.hid r9
     clear b8 b9 r9 hg9 hV9
     refine hK.out _ _ hHeld (fun hHeld => ?_)
     clear hK K
     try simp only [Act.put, List.setIfInBounds_toArray, List.set_cons_zero, List.set_cons_succ]
     refine wpAnyH_ready (rs := [6, 17]) (by kernel_rfl) (by simp) ?_
     refine (AllReadyH.cons (o := _) rfl (fun K hK => ?_) (AllReadyH.cons (o := _) rfl (fun K hK => ?_) AllReadyH.nil))
     · skip
       go_simp
       refine hK.out _ _ hHeld (fun hHeld => ?_)
       clear hK K
       try simp only [Act.put, List.setIfInBounds_toArray, List.set_cons_zero, List.set_cons_succ]
       refine take_yes (i := 8) (d := (some 61)) (v := ?_) rfl (by kernel_rfl) (by kernel_rfl) (by kernel_rfl) rfl (fun _ _ _ h => h) (by rfl) (by assumption) ?_ ?_
       rotate_left
       · (intro w hSw; (try dsimp only at hSw); go_simp; try with_reducible rfl)
       try simp only [Act.put, List.setIfInBounds_toArray, List.set_cons_zero, List.set_cons_succ]
       refine wpAnyH_ready (rs := [9, 17]) (by kernel_rfl) (by simp) ?_
       refine (AllReadyH.cons (o := _) rfl (fun K hK => ?_) (AllReadyH.cons (o := _) rfl (fun K hK => ?_) AllReadyH.nil))
       · skip
         refine step_app ty_ins rfl _ _ rfl rfl (own_nil V27 W6.heap.size _ _) rfl (HR1.out.later HB0.out) HO1.out (by rw [HL1.out]; have h1 := HKL.out; have h2 := HLN.out; exact ⟨by simp; omega, by decide⟩) HB0.out.size ?_
         intro a62 c62 V28 o62 k62 n62
         rw [show ([] : List (List Value)).length + ((C.map Ins.cells).take k).length = k by rw [HL1.out]; simp] at o62 n62 ⊢
         rw [List.nil_append] at o62
         have b9 := own_below (own_nil V27 W6.heap.size 33 4) k62 HB0.out.size
         have b8 : Below V27.heap.size V27 V28 := k62.below (fun j hj => by cases hj) (Nat.le_refl _)
         replace p2 := (b9).cell (p := ⟨bf, 2, none⟩) hblt.out.1 |>.trans p2
         replace hHeld : HeldN nb bf V28 := ((b9).cell (p := ⟨nb, 1, none⟩) hblt.out.2).trans hHeld
         replace HB0 := Lib.hid (HB0.out.trans (b9))
         replace HR64 := Lib.hid (HR64.out.later b8)
         have HO62 := Lib.hid o62
         clear o62 k62 n62 b9 b8
         refine hK.out _ _ hHeld (fun hHeld => ?_)
         clear hK K
         try simp only [Act.put, List.setIfInBounds_toArray, List.set_cons_zero, List.set_cons_succ]
         refine wpAnyH_ready (rs := [12, 17]) (by kernel_rfl) (by simp) ?_
         refine (AllReadyH.cons (o := _) rfl (fun K hK => ?_) (AllReadyH.cons (o := _) rfl (fun K hK => ?_) AllReadyH.nil))
         · skip
           refine step_app ty_ins (rows := (C.map Ins.cells).take k) (rows2 := [Ins.cells ⟨1, 0, 0⟩]) rfl _ _ rfl rfl HO62.out rfl HR64.out (fun r hr u hu => by rw [List.mem_singleton.1 hr] at hu; exact ins_cells_one _ u hu) (by have h3 := HL1.out; have h1 := HKL.out; have h2 := HLN.out; exact ⟨by simp only [List.length_cons, List.length_nil]; omega, by decide⟩) HB0.out.size ?_
           intro a65 c65 V29 o65 k65 n65
           rw [show ((C.map Ins.cells).take k).length + ([Ins.cells ⟨1, 0, 0⟩] : List (List Value)).length = k + 1 by rw [HL1.out]; rfl] at o65 n65 ⊢
           have b9 := own_below HO62.out k65 HB0.out.size
           replace p2 := (b9).cell (p := ⟨bf, 2, none⟩) hblt.out.1 |>.trans p2
           replace hHeld : HeldN nb bf V29 := ((b9).cell (p := ⟨nb, 1, none⟩) hblt.out.2).trans hHeld
           replace HB0 := Lib.hid (HB0.out.trans (b9))
           have HO65 := Lib.hid o65
           clear o65 k65 n65 b9 HO62 HR64
           refine hK.out _ _ hHeld (fun hHeld => ?_)
           clear hK K
           try simp only [Act.put, List.setIfInBounds_toArray, List.set_cons_zero, List.set_cons_succ]
           refine wpAnyH_ready (rs := [17]) (by kernel_rfl) (by simp) ?_
           refine (AllReadyH.cons (o := _) rfl (fun K hK => ?_) AllReadyH.nil)
           go_simp
           refine hK.out _ _ hHeld (fun hHeld => ?_)
           clear hK K
           try simp only [Act.put, List.setIfInBounds_toArray, List.set_cons_zero, List.set_cons_succ]
           refine take_yes (i := 19) (d := (some 72)) (v := ?_) rfl (by kernel_rfl) (by kernel_rfl) (by kernel_rfl) rfl (fun _ _ _ h => h) (by rfl) (by assumption) ?_ ?_
           rotate_left
           · (intro w hSw; (try dsimp only at hSw); go_simp; try with_reducible rfl)
           try simp only [Act.put, List.setIfInBounds_toArray, List.set_cons_zero, List.set_cons_succ]
           refine wpAnyH_ready (rs := [20]) (by kernel_rfl) (by simp) ?_
           refine (AllReadyH.cons (o := _) rfl (fun K hK => ?_) AllReadyH.nil)
           refine step_app ty_ins (rows := (C.map Ins.cells).take k ++ [Ins.cells ⟨1, 0, 0⟩]) (rows2 := (C.map Ins.cells).drop k) rfl _ _ rfl rfl HO65.out rfl (HR2.out.later HB0.out) HO2.out (by have h4 := HL2.out; have h3 := HL1.out; have h1 := HKL.out; have h2 := HLN.out; exact ⟨by simp only [List.length_cons, List.length_nil, List.length_append]; omega, by decide⟩) HB0.out.size ?_
           intro a73 c73 V30 o73 k73 n73
           rw [show ((C.map Ins.cells).take k ++ [Ins.cells ⟨1, 0, 0⟩]).length + ((C.map Ins.cells).drop k).length = C.length + 1 by rw [List.length_append, HL1.out, HL2.out]; have h1 := HKL.out; simp only [List.length_cons, List.length_nil]; omega] at o73 n73 ⊢
           have b9 := own_below HO65.out k73 HB0.out.size
           replace p2 := (b9).cell (p := ⟨bf, 2, none⟩) hblt.out.1 |>.trans p2
           replace hHeld : HeldN nb bf V30 := ((b9).cell (p := ⟨nb, 1, none⟩) hblt.out.2).trans hHeld
           replace HB0 := Lib.hid (HB0.out.trans (b9))
           have HO73 := Lib.hid o73
           clear o73 k73 n73 b9 HO65
           refine hK.out _ _ hHeld (fun hHeld => ?_)
           clear hK K
           try simp only [Act.put, List.setIfInBounds_toArray, List.set_cons_zero, List.set_cons_succ]
           refine take_yes (i := 21) (d := (some 74)) (v := ?_) rfl (by kernel_rfl) (by kernel_rfl) (by kernel_rfl) rfl (fun _ _ _ h => h) (by rfl) (by assumption) ?_ ?_
           rotate_left
           · (intro w hSw; (try dsimp only at hSw); go_simp; try with_reducible rfl)
           try simp only [Act.put, List.setIfInBounds_toArray, List.set_cons_zero, List.set_cons_succ]
           refine take_yes (i := 22) (d := (some 75)) (v := ?_) rfl (by kernel_rfl) (by kernel_rfl) (by kernel_rfl) rfl (fun _ _ _ h => h) (by rfl) (by assumption) ?_ ?_
           rotate_left
           · (intro w hSw; (try dsimp only at hSw); go_simp; try with_reducible rfl)
           try simp only [Act.put, List.setIfInBounds_toArray, List.set_cons_zero, List.set_cons_succ]
           refine wpAnyH_ready (rs := [23]) (by kernel_rfl) (by simp) ?_
           refine (AllReadyH.cons (o := _) rfl (fun K hK => ?_) AllReadyH.nil)
           have fz := frozen_of_row V30 _ 2 _ _ ((HB0.out.block bf hblt.out.1).trans HA.out.hf)
           go_simp
           refine hK.out _ _ ((World.cell?_setCell_far _ _ _ _ hnbf.out).trans hHeld) (fun hHeld => ?_)
           clear fz
           clear hK K
           try simp only [Act.put, List.setIfInBounds_toArray, List.set_cons_zero, List.set_cons_succ]
           refine wpAnyH_done (by kernel_rfl) ?_ _
           go_step
           go_step
           go_meet
           case rel => exact ⟨rfl, Lib.hid ⟨_, _, _, rfl, HO73.out, HB0.out⟩⟩
         · skip
           go_simp
           refine hK.out _ _ hHeld (fun hHeld => ?_)
           clear hK K
           try simp only [Act.put, List.setIfInBounds_toArray, List.set_cons_zero, List.set_cons_succ]
           refine take_yes (i := 19) (d := (some 72)) (v := ?_) rfl (by kernel_rfl) (by kernel_rfl) (by kernel_rfl) rfl (fun _ _ _ h => h) (by rfl) (by assumption) ?_ ?_
           rotate_left
           · (intro w hSw; (try dsimp only at hSw); go_simp; try with_reducible rfl)
           try simp only [Act.put, List.setIfInBounds_toArray, List.set_cons_zero, List.set_cons_succ]
           refine wpAnyH_ready (rs := [12]) (by kernel_rfl) (by simp) ?_
           refine (AllReadyH.cons (o := _) rfl (fun K hK => ?_) AllReadyH.nil)
           refine step_app ty_ins (rows := (C.map Ins.cells).take k) (rows2 := [Ins.cells ⟨1, 0, 0⟩]) rfl _ _ rfl rfl HO62.out rfl HR64.out (fun r hr u hu => by rw [List.mem_singleton.1 hr] at hu; exact ins_cells_one _ u hu) (by have h3 := HL1.out; have h1 := HKL.out; have h2 := HLN.out; exact ⟨by simp only [List.length_cons, List.length_nil]; omega, by decide⟩) HB0.out.size ?_
           intro a65 c65 V31 o65 k65 n65
           rw [show ((C.map Ins.cells).take k).length + ([Ins.cells ⟨1, 0, 0⟩] : List (List Value)).length = k + 1 by rw [HL1.out]; rfl] at o65 n65 ⊢
           have b9 := own_below HO62.out k65 HB0.out.size
           replace p2 := (b9).cell (p := ⟨bf, 2, none⟩) hblt.out.1 |>.trans p2
           replace hHeld : HeldN nb bf V31 := ((b9).cell (p := ⟨nb, 1, none⟩) hblt.out.2).trans hHeld
           replace HB0 := Lib.hid (HB0.out.trans (b9))
           have HO65 := Lib.hid o65
           clear o65 k65 n65 b9 HO62 HR64
           refine hK.out _ _ hHeld (fun hHeld => ?_)
           clear hK K
           try simp only [Act.put, List.setIfInBounds_toArray, List.set_cons_zero, List.set_cons_succ]
           refine wpAnyH_ready (rs := [20]) (by kernel_rfl) (by simp) ?_
           refine (AllReadyH.cons (o := _) rfl (fun K hK => ?_) AllReadyH.nil)
           refine step_app ty_ins (rows := (C.map Ins.cells).take k ++ [Ins.cells ⟨1, 0, 0⟩]) (rows2 := (C.map Ins.cells).drop k) rfl _ _ rfl rfl HO65.out rfl (HR2.out.later HB0.out) HO2.out (by have h4 := HL2.out; have h3 := HL1.out; have h1 := HKL.out; have h2 := HLN.out; exact ⟨by simp only [List.length_cons, List.length_nil, List.length_append]; omega, by decide⟩) HB0.out.size ?_
           intro a73 c73 V32 o73 k73 n73
           rw [show ((C.map Ins.cells).take k ++ [Ins.cells ⟨1, 0, 0⟩]).length + ((C.map Ins.cells).drop k).length = C.length + 1 by rw [List.length_append, HL1.out, HL2.out]; have h1 := HKL.out; simp only [List.length_cons, List.length_nil]; omega] at o73 n73 ⊢
           have b9 := own_below HO65.out k73 HB0.out.size
           replace p2 := (b9).cell (p := ⟨bf, 2, none⟩) hblt.out.1 |>.trans p2
           replace hHeld : HeldN nb bf V32 := ((b9).cell (p := ⟨nb, 1, none⟩) hblt.out.2).trans hHeld
           replace HB0 := Lib.hid (HB0.out.trans (b9))
           have HO73 := Lib.hid o73
           clear o73 k73 n73 b9 HO65
           refine hK.out _ _ hHeld (fun hHeld => ?_)
           clear hK K
           try simp only [Act.put, List.setIfInBounds_toArray, List.set_cons_zero, List.set_cons_succ]
           refine take_yes (i := 21) (d := (some 74)) (v := ?_) rfl (by kernel_rfl) (by kernel_rfl) (by kernel_rfl) rfl (fun _ _ _ h => h) (by rfl) (by assumption) ?_ ?_
           rotate_left
           · (intro w hSw; (try dsimp only at hSw); go_simp; try with_reducible rfl)
           try simp only [Act.put, List.setIfInBounds_toArray, List.set_cons_zero, List.set_cons_succ]
           refine take_yes (i := 22) (d := (some 75)) (v := ?_) rfl (by kernel_rfl) (by kernel_rfl) (by kernel_rfl) rfl (fun _ _ _ h => h) (by rfl) (by assumption) ?_ ?_
           rotate_left
           · (intro w hSw; (try dsimp only at hSw); go_simp; try with_reducible rfl)
           try simp only [Act.put, List.setIfInBounds_toArray, List.set_cons_zero, List.set_cons_succ]
           refine wpAnyH_ready (rs := [23]) (by kernel_rfl) (by simp) ?_
           refine (AllReadyH.cons (o := _) rfl (fun K hK => ?_) AllReadyH.nil)
           have fz := frozen_of_row V32 _ 2 _ _ ((HB0.out.block bf hblt.out.1).trans HA.out.hf)
           go_simp
           refine hK.out _ _ ((World.cell?_setCell_far _ _ _ _ hnbf.out).trans hHeld) (fun hHeld => ?_)
           clear fz
           clear hK K
           try simp only [Act.put, List.setIfInBounds_toArray, List.set_cons_zero, List.set_cons_succ]
           refine wpAnyH_done (by kernel_rfl) ?_ _
           go_step
           go_step
           go_meet
           case rel => exact ⟨rfl, Lib.hid ⟨_, _, _, rfl, HO73.out, HB0.out⟩⟩
       · skip
         go_simp
         refine hK.out _ _ hHeld (fun hHeld => ?_)
         clear hK K
         try simp only [Act.put, List.setIfInBounds_toArray, List.set_cons_zero, List.set_cons_succ]
         refine take_yes (i := 19) (d := (some 72)) (v := ?_) rfl (by kernel_rfl) (by kernel_rfl) (by kernel_rfl) rfl (fun _ _ _ h => h) (by rfl) (by assumption) ?_ ?_
         rotate_left
         · (intro w hSw; (try dsimp only at hSw); go_simp; try with_reducible rfl)
         try simp only [Act.put, List.setIfInBounds_toArray, List.set_cons_zero, List.set_cons_succ]
         refine wpAnyH_ready (rs := [9]) (by kernel_rfl) (by simp) ?_
         refine (AllReadyH.cons (o := _) rfl (fun K hK => ?_) AllReadyH.nil)
         refine step_app ty_ins rfl _ _ rfl rfl (own_nil V27 W6.heap.size _ _) rfl (HR1.out.later HB0.out) HO1.out (by rw [HL1.out]; have h1 := HKL.out; have h2 := HLN.out; exact ⟨by simp; omega, by decide⟩) HB0.out.size ?_
         intro a62 c62 V33 o62 k62 n62
         rw [show ([] : List (List Value)).length + ((C.map Ins.cells).take k).length = k by rw [HL1.out]; simp] at o62 n62 ⊢
         rw [List.nil_append] at o62
         have b9 := own_below (own_nil V27 W6.heap.size 33 4) k62 HB0.out.size
         have b8 : Below V27.heap.size V27 V33 := k62.below (fun j hj => by cases hj) (Nat.le_refl _)
         replace p2 := (b9).cell (p := ⟨bf, 2, none⟩) hblt.out.1 |>.trans p2
         replace hHeld : HeldN nb bf V33 := ((b9).cell (p := ⟨nb, 1, none⟩) hblt.out.2).trans hHeld
         replace HB0 := Lib.hid (HB0.out.trans (b9))
         replace HR64 := Lib.hid (HR64.out.later b8)
         have HO62 := Lib.hid o62
         clear o62 k62 n62 b9 b8
         refine hK.out _ _ hHeld (fun hHeld => ?_)
         clear hK K
         try simp only [Act.put, List.setIfInBounds_toArray, List.set_cons_zero, List.set_cons_succ]
         refine wpAnyH_ready (rs := [12]) (by kernel_rfl) (by simp) ?_
         refine (AllReadyH.cons (o := _) rfl (fun K hK => ?_) AllReadyH.nil)
         refine step_app ty_ins (rows := (C.map Ins.cells).take k) (rows2 := [Ins.cells ⟨1, 0, 0⟩]) rfl _ _ rfl rfl HO62.out rfl HR64.out (fun r hr u hu => by rw [List.mem_singleton.1 hr] at hu; exact ins_cells_one _ u hu) (by have h3 := HL1.out; have h1 := HKL.out; have h2 := HLN.out; exact ⟨by simp only [List.length_cons, List.length_nil]; omega, by decide⟩) HB0.out.size ?_
         intro a65 c65 V34 o65 k65 n65
         rw [show ((C.map Ins.cells).take k).length + ([Ins.cells ⟨1, 0, 0⟩] : List (List Value)).length = k + 1 by rw [HL1.out]; rfl] at o65 n65 ⊢
         have b9 := own_below HO62.out k65 HB0.out.size
         replace p2 := (b9).cell (p := ⟨bf, 2, none⟩) hblt.out.1 |>.trans p2
         replace hHeld : HeldN nb bf V34 := ((b9).cell (p := ⟨nb, 1, none⟩) hblt.out.2).trans hHeld
         replace HB0 := Lib.hid (HB0.out.trans (b9))
         have HO65 := Lib.hid o65
         clear o65 k65 n65 b9 HO62 HR64
         refine hK.out _ _ hHeld (fun hHeld => ?_)
         clear hK K
         try simp only [Act.put, List.setIfInBounds_toArray, List.set_cons_zero, List.set_cons_succ]
         refine wpAnyH_ready (rs := [20]) (by kernel_rfl) (by simp) ?_
         refine (AllReadyH.cons (o := _) rfl (fun K hK => ?_) AllReadyH.nil)
         refine step_app ty_ins (rows := (C.map Ins.cells).take k ++ [Ins.cells ⟨1, 0, 0⟩]) (rows2 := (C.map Ins.cells).drop k) rfl _ _ rfl rfl HO65.out rfl (HR2.out.later HB0.out) HO2.out (by have h4 := HL2.out; have h3 := HL1.out; have h1 := HKL.out; have h2 := HLN.out; exact ⟨by simp only [List.length_cons, List.length_nil, List.length_append]; omega, by decide⟩) HB0.out.size ?_
         intro a73 c73 V35 o73 k73 n73
         rw [show ((C.map Ins.cells).take k ++ [Ins.cells ⟨1, 0, 0⟩]).length + ((C.map Ins.cells).drop k).length = C.length + 1 by rw [List.length_append, HL1.out, HL2.out]; have h1 := HKL.out; simp only [List.length_cons, List.length_nil]; omega] at o73 n73 ⊢
         have b9 := own_below HO65.out k73 HB0.out.size
         replace p2 := (b9).cell (p := ⟨bf, 2, none⟩) hblt.out.1 |>.trans p2
         replace hHeld : HeldN nb bf V35 := ((b9).cell (p := ⟨nb, 1, none⟩) hblt.out.2).trans hHeld
         replace HB0 := Lib.hid (HB0.out.trans (b9))
         have HO73 := Lib.hid o73
         clear o73 k73 n73 b9 HO65
         refine hK.out _ _ hHeld (fun hHeld => ?_)
         clear hK K
         try simp only [Act.put, List.setIfInBounds_toArray, List.set_cons_zero, List.set_cons_succ]
         refine take_yes (i := 21) (d := (some 74)) (v := ?_) rfl (by kernel_rfl) (by kernel_rfl) (by kernel_rfl) rfl (fun _ _ _ h => h) (by rfl) (by assumption) ?_ ?_
         rotate_left
         · (intro w hSw; (try dsimp only at hSw); go_simp; try with_reducible rfl)
         try simp only [Act.put, List.setIfInBounds_toArray, List.set_cons_zero, List.set_cons_succ]
         refine take_yes (i := 22) (d := (some 75)) (v := ?_) rfl (by kernel_rfl) (by kernel_rfl) (by kernel_rfl) rfl (fun _ _ _ h => h) (by rfl) (by assumption) ?_ ?_
         rotate_left
         · (intro w hSw; (try dsimp only at hSw); go_simp; try with_reducible rfl)
         try simp only [Act.put, List.setIfInBounds_toArray, List.set_cons_zero, List.set_cons_succ]
         refine wpAnyH_ready (rs := [23]) (by kernel_rfl) (by simp) ?_
         refine (AllReadyH.cons (o := _) rfl (fun K hK => ?_) AllReadyH.nil)
         have fz := frozen_of_row V35 _ 2 _ _ ((HB0.out.block bf hblt.out.1).trans HA.out.hf)
         go_simp
         refine hK.out _ _ ((World.cell?_setCell_far _ _ _ _ hnbf.out).trans hHeld) (fun hHeld => ?_)
         clear fz
         clear hK K
         try simp only [Act.put, List.setIfInBounds_toArray, List.set_cons_zero, List.set_cons_succ]
         refine wpAnyH_done (by kernel_rfl) ?_ _
         go_step
         go_step
         go_meet
         case rel => exact ⟨rfl, Lib.hid ⟨_, _, _, rfl, HO73.out, HB0.out⟩⟩
     · skip
       go_simp
       refine hK.out _ _ hHeld (fun hHeld => ?_)
       clear hK K
       try simp only [Act.put, List.setIfInBounds_toArray, List.set_cons_zero, List.set_cons_succ]
       refine take_yes (i := 19) (d := (some 72)) (v := ?_) rfl (by kernel_rfl) (by kernel_rfl) (by kernel_rfl) rfl (fun _ _ _ h => h) (by rfl) (by assumption) ?_ ?_
       rotate_left
       · (intro w hSw; (try dsimp only at hSw); go_simp; try with_reducible rfl)
       try simp only [Act.put, List.setIfInBounds_toArray, List.set_cons_zero, List.set_cons_succ]
       refine wpAnyH_ready (rs := [6]) (by kernel_rfl) (by simp) ?_
       refine (AllReadyH.cons (o := _) rfl (fun K hK => ?_) AllReadyH.nil)
       go_simp
       refine hK.out _ _ hHeld (fun hHeld => ?_)
       clear hK K
       try simp only [Act.put, List.setIfInBounds_toArray, List.set_cons_zero, List.set_cons_succ]
       refine take_yes (i := 8) (d := (some 61)) (v := ?_) rfl (by kernel_rfl) (by kernel_rfl) (by kernel_rfl) rfl (fun _ _ _ h => h) (by rfl) (by assumption) ?_ ?_
       rotate_left
       · (intro w hSw; (try dsimp only at hSw); go_simp; try with_reducible rfl)
       try simp only [Act.put, List.setIfInBounds_toArray, List.set_cons_zero, List.set_cons_succ]
       refine wpAnyH_ready (rs := [9]) (by kernel_rfl) (by simp) ?_
       refine (AllReadyH.cons (o := _) rfl (fun K hK => ?_) AllReadyH.nil)
       refine step_app ty_ins rfl _ _ rfl rfl (own_nil V27 W6.heap.size _ _) rfl (HR1.out.later HB0.out) HO1.out (by rw [HL1.out]; have h1 := HKL.out; have h2 := HLN.out; exact ⟨by simp; omega, by decide⟩) HB0.out.size ?_
       intro a62 c62 V36 o62 k62 n62
       rw [show ([] : List (List Value)).length + ((C.map Ins.cells).take k).length = k by rw [HL1.out]; simp] at o62 n62 ⊢
       rw [List.nil_append] at o62
       have b9 := own_below (own_nil V27 W6.heap.size 33 4) k62 HB0.out.size
       have b8 : Below V27.heap.size V27 V36 := k62.below (fun j hj => by cases hj) (Nat.le_refl _)
       replace p2 := (b9).cell (p := ⟨bf, 2, none⟩) hblt.out.1 |>.trans p2
       replace hHeld : HeldN nb bf V36 := ((b9).cell (p := ⟨nb, 1, none⟩) hblt.out.2).trans hHeld
       replace HB0 := Lib.hid (HB0.out.trans (b9))
       replace HR64 := Lib.hid (HR64.out.later b8)
       have HO62 := Lib.hid o62
       clear o62 k62 n62 b9 b8
       refine hK.out _ _ hHeld (fun hHeld => ?_)
       clear hK K
       try simp only [Act.put, List.setIfInBounds_toArray, List.set_cons_zero, List.set_cons_succ]
       refine wpAnyH_ready (rs := [12]) (by kernel_rfl) (by simp) ?_
       refine (AllReadyH.cons (o := _) rfl (fun K hK => ?_) AllReadyH.nil)
       refine step_app ty_ins (rows := (C.map Ins.cells).take k) (rows2 := [Ins.cells ⟨1, 0, 0⟩]) rfl _ _ rfl rfl HO62.out rfl HR64.out (fun r hr u hu => by rw [List.mem_singleton.1 hr] at hu; exact ins_cells_one _ u hu) (by have h3 := HL1.out; have h1 := HKL.out; have h2 := HLN.out; exact ⟨by simp only [List.length_cons, List.length_nil]; omega, by decide⟩) HB0.out.size ?_
       intro a65 c65 V37 o65 k65 n65
       rw [show ((C.map Ins.cells).take k).length + ([Ins.cells ⟨1, 0, 0⟩] : List (List Value)).length = k + 1 by rw [HL1.out]; rfl] at o65 n65 ⊢
       have b9 := own_below HO62.out k65 HB0.out.size
       replace p2 := (b9).cell (p := ⟨bf, 2, none⟩) hblt.out.1 |>.trans p2
       replace hHeld : HeldN nb bf V37 := ((b9).cell (p := ⟨nb, 1, none⟩) hblt.out.2).trans hHeld
       replace HB0 := Lib.hid (HB0.out.trans (b9))
       have HO65 := Lib.hid o65
       clear o65 k65 n65 b9 HO62 HR64
       refine hK.out _ _ hHeld (fun hHeld => ?_)
       clear hK K
       try simp only [Act.put, List.setIfInBounds_toArray, List.set_cons_zero, List.set_cons_succ]
       refine wpAnyH_ready (rs := [20]) (by kernel_rfl) (by simp) ?_
       refine (AllReadyH.cons (o := _) rfl (fun K hK => ?_) AllReadyH.nil)
       refine step_app ty_ins (rows := (C.map Ins.cells).take k ++ [Ins.cells ⟨1, 0, 0⟩]) (rows2 := (C.map Ins.cells).drop k) rfl _ _ rfl rfl HO65.out rfl (HR2.out.later HB0.out) HO2.out (by have h4 := HL2.out; have h3 := HL1.out; have h1 := HKL.out; have h2 := HLN.out; exact ⟨by simp only [List.length_cons, List.length_nil, List.length_append]; omega, by decide⟩) HB0.out.size ?_
       intro a73 c73 V38 o73 k73 n73
       rw [show ((C.map Ins.cells).take k ++ [Ins.cells ⟨1, 0, 0⟩]).length + ((C.map Ins.cells).drop k).length = C.length + 1 by rw [List.length_append, HL1.out, HL2.out]; have h1 := HKL.out; simp only [List.length_cons, List.length_nil]; omega] at o73 n73 ⊢
       have b9 := own_below HO65.out k73 HB0.out.size
       replace p2 := (b9).cell (p := ⟨bf, 2, none⟩) hblt.out.1 |>.trans p2
       replace hHeld : HeldN nb bf V38 := ((b9).cell (p := ⟨nb, 1, none⟩) hblt.out.2).trans hHeld
       replace HB0 := Lib.hid (HB0.out.trans (b9))
       have HO73 := Lib.hid o73
       clear o73 k73 n73 b9 HO65
       refine hK.out _ _ hHeld (fun hHeld => ?_)
       clear hK K
       try simp only [Act.put, List.setIfInBounds_toArray, List.set_cons_zero, List.set_cons_succ]
       refine take_yes (i := 21) (d := (some 74)) (v := ?_) rfl (by kernel_rfl) (by kernel_rfl) (by kernel_rfl) rfl (fun _ _ _ h => h) (by rfl) (by assumption) ?_ ?_
       rotate_left
       · (intro w hSw; (try dsimp only at hSw); go_simp; try with_reducible rfl)
       try simp only [Act.put, List.setIfInBounds_toArray, List.set_cons_zero, List.set_cons_succ]
       refine take_yes (i := 22) (d := (some 75)) (v := ?_) rfl (by kernel_rfl) (by kernel_rfl) (by kernel_rfl) rfl (fun _ _ _ h => h) (by rfl) (by assumption) ?_ ?_
       rotate_left
       · (intro w hSw; (try dsimp only at hSw); go_simp; try with_reducible rfl)
       try simp only [Act.put, List.setIfInBounds_toArray, List.set_cons_zero, List.set_cons_succ]
       refine wpAnyH_ready (rs := [23]) (by kernel_rfl) (by simp) ?_
       refine (AllReadyH.cons (o := _) rfl (fun K hK => ?_) AllReadyH.nil)
       have fz := frozen_of_row V38 _ 2 _ _ ((HB0.out.block bf hblt.out.1).trans HA.out.hf)
       go_simp
       refine hK.out _ _ ((World.cell?_setCell_far _ _ _ _ hnbf.out).trans hHeld) (fun hHeld => ?_)
       clear fz
       clear hK K
       try simp only [Act.put, List.setIfInBounds_toArray, List.set_cons_zero, List.set_cons_succ]
       refine wpAnyH_done (by kernel_rfl) ?_ _
       go_step
       go_step
       go_meet
       case rel => exact ⟨rfl, Lib.hid ⟨_, _, _, rfl, HO73.out, HB0.out⟩⟩
   · skip
     go_simp
     refine hK.out _ _ hHeld (fun hHeld => ?_)
     clear hK K
     try simp only [Act.put, List.setIfInBounds_toArray, List.set_cons_zero, List.set_cons_succ]
     refine take_yes (i := 19) (d := (some 72)) (v := ?_) rfl (by kernel_rfl) (by kernel_rfl) (by kernel_rfl) rfl (fun _ _ _ h => h) (by rfl) (by assumption) ?_ ?_
     rotate_left
     · (intro w hSw; (try dsimp only at hSw); go_simp; try with_reducible rfl)
     try simp only [Act.put, List.setIfInBounds_toArray, List.set_cons_zero, List.set_cons_succ]
     refine wpAnyH_ready (rs := [6, 11]) (by kernel_rfl) (by simp) ?_
     refine (AllReadyH.cons (o := _) rfl (fun K hK => ?_) (AllReadyH.cons (o := _) rfl (fun K hK => ?_) AllReadyH.nil))
     · skip
       go_simp
       refine hK.out _ _ hHeld (fun hHeld => ?_)
       clear hK K
       try simp only [Act.put, List.setIfInBounds_toArray, List.set_cons_zero, List.set_cons_succ]
       refine take_yes (i := 8) (d := (some 61)) (v := ?_) rfl (by kernel_rfl) (by kernel_rfl) (by kernel_rfl) rfl (fun _ _ _ h => h) (by rfl) (by assumption) ?_ ?_
       rotate_left
       · (intro w hSw; (try dsimp only at hSw); go_simp; try with_reducible rfl)
       try simp only [Act.put, List.setIfInBounds_toArray, List.set_cons_zero, List.set_cons_succ]
       refine wpAnyH_ready (rs := [9, 11]) (by kernel_rfl) (by simp) ?_
       refine (AllReadyH.cons (o := _) rfl (fun K hK => ?_) (AllReadyH.cons (o := _) rfl (fun K hK => ?_) AllReadyH.nil))
       · skip
         refine step_app ty_ins rfl _ _ rfl rfl (own_nil V0 W6.heap.size _ _) rfl (HR1.out.later HB0.out) HO1.out (by rw [HL1.out]; have h1 := HKL.out; have h2 := HLN.out; exact ⟨by simp; omega, by decide⟩) HB0.out.size ?_
         intro a62 c62 V39 o62 k62 n62
         rw [show ([] : List (List Value)).length + ((C.map Ins.cells).take k).length = k by rw [HL1.out]; simp] at o62 n62 ⊢
         rw [List.nil_append] at o62
         have b9 := own_below (own_nil V0 W6.heap.size 33 4) k62 HB0.out.size
         have b8 : Below V0.heap.size V0 V39 := k62.below (fun j hj => by cases hj) (Nat.le_refl _)
         replace p2 := (b9).cell (p := ⟨bf, 2, none⟩) hblt.out.1 |>.trans p2
         replace hHeld : HeldN nb bf V39 := ((b9).cell (p := ⟨nb, 1, none⟩) hblt.out.2).trans hHeld
         replace HB0 := Lib.hid (HB0.out.trans (b9))
         have HO62 := Lib.hid o62
         clear o62 k62 n62 b9 b8
         refine hK.out _ _ hHeld (fun hHeld => ?_)
         clear hK K
         try simp only [Act.put, List.setIfInBounds_toArray, List.set_cons_zero, List.set_cons_succ]
         refine wpAnyH_ready (rs := [11]) (by kernel_rfl) (by simp) ?_
         refine (AllReadyH.cons (o := _) rfl (fun K hK => ?_) AllReadyH.nil)
         go_simp
         have b8 : Below V39.heap.size V39 (V39.alloc (.cells #[.int .i64 1, .int .i64 0, .int .i64 0, .slice none 0 0] 33)) := (Below.refl _ _).alloc (Nat.le_refl _) _
         have r9 : RowAt (V39.alloc (.cells #[.int .i64 1, .int .i64 0, .int .i64 0, .slice none 0 0] 33)) 4 (.slice (some ⟨V39.heap.size, 0, none⟩) 1 1) [Ins.cells ⟨1, 0, 0⟩] := row_new V39 33 (Ins.cells ⟨1, 0, 0⟩)
         generalize hg9 : V39.heap.size = g64 at r9 ⊢
         obtain ⟨V40, hV9⟩ : ∃ V, V39.alloc (.cells #[.int .i64 1, .int .i64 0, .int .i64 0, .slice none 0 0] 33) = V := ⟨_, rfl⟩
         rw [hV9] at b8 r9 ⊢
         have b9 := b8.mono HB0.out.size
         replace p2 := (b9).cell (p := ⟨bf, 2, none⟩) hblt.out.1 |>.trans p2
         replace hHeld : HeldN nb bf V40 := ((b9).cell (p := ⟨nb, 1, none⟩) hblt.out.2).trans hHeld
         replace HB0 := Lib.hid (HB0.out.trans (b9))
         replace HO62 := Lib.hid (HO62.out.later b8)
         have HR64 := Lib.hid r9
         clear b8 b9 r9 hg9 hV9
         refine hK.out _ _ hHeld (fun hHeld => ?_)
         clear hK K
         try simp only [Act.put, List.setIfInBounds_toArray, List.set_cons_zero, List.set_cons_succ]
         refine wpAnyH_ready (rs := [12]) (by kernel_rfl) (by simp) ?_
         refine (AllReadyH.cons (o := _) rfl (fun K hK => ?_) AllReadyH.nil)
         refine step_app ty_ins (rows := (C.map Ins.cells).take k) (rows2 := [Ins.cells ⟨1, 0, 0⟩]) rfl _ _ rfl rfl HO62.out rfl HR64.out (fun r hr u hu => by rw [List.mem_singleton.1 hr] at hu; exact ins_cells_one _ u hu) (by have h3 := HL1.out; have h1 := HKL.out; have h2 := HLN.out; exact ⟨by simp only [List.length_cons, List.length_nil]; omega, by decide⟩) HB0.out.size ?_
         intro a65 c65 V41 o65 k65 n65
         rw [show ((C.map Ins.cells).take k).length + ([Ins.cells ⟨1, 0, 0⟩] : List (List Value)).length = k + 1 by rw [HL1.out]; rfl] at o65 n65 ⊢
         have b9 := own_below HO62.out k65 HB0.out.size
         replace p2 := (b9).cell (p := ⟨bf, 2, none⟩) hblt.out.1 |>.trans p2
         replace hHeld : HeldN nb bf V41 := ((b9).cell (p := ⟨nb, 1, none⟩) hblt.out.2).trans hHeld
         replace HB0 := Lib.hid (HB0.out.trans (b9))
         have HO65 := Lib.hid o65
         clear o65 k65 n65 b9 HO62 HR64
         refine hK.out _ _ hHeld (fun hHeld => ?_)
         clear hK K
         try simp only [Act.put, List.setIfInBounds_toArray, List.set_cons_zero, List.set_cons_succ]
         refine wpAnyH_ready (rs := [20]) (by kernel_rfl) (by simp) ?_
         refine (AllReadyH.cons (o := _) rfl (fun K hK => ?_) AllReadyH.nil)
         refine step_app ty_ins (rows := (C.map Ins.cells).take k ++ [Ins.cells ⟨1, 0, 0⟩]) (rows2 := (C.map Ins.cells).drop k) rfl _ _ rfl rfl HO65.out rfl (HR2.out.later HB0.out) HO2.out (by have h4 := HL2.out; have h3 := HL1.out; have h1 := HKL.out; have h2 := HLN.out; exact ⟨by simp only [List.length_cons, List.length_nil, List.length_append]; omega, by decide⟩) HB0.out.size ?_
         intro a73 c73 V42 o73 k73 n73
         rw [show ((C.map Ins.cells).take k ++ [Ins.cells ⟨1, 0, 0⟩]).length + ((C.map Ins.cells).drop k).length = C.length + 1 by rw [List.length_append, HL1.out, HL2.out]; have h1 := HKL.out; simp only [List.length_cons, List.length_nil]; omega] at o73 n73 ⊢
         have b9 := own_below HO65.out k73 HB0.out.size
         replace p2 := (b9).cell (p := ⟨bf, 2, none⟩) hblt.out.1 |>.trans p2
         replace hHeld : HeldN nb bf V42 := ((b9).cell (p := ⟨nb, 1, none⟩) hblt.out.2).trans hHeld
         replace HB0 := Lib.hid (HB0.out.trans (b9))
         have HO73 := Lib.hid o73
         clear o73 k73 n73 b9 HO65
         refine hK.out _ _ hHeld (fun hHeld => ?_)
         clear hK K
         try simp only [Act.put, List.setIfInBounds_toArray, List.set_cons_zero, List.set_cons_succ]
         refine take_yes (i := 21) (d := (some 74)) (v := ?_) rfl (by kernel_rfl) (by kernel_rfl) (by kernel_rfl) rfl (fun _ _ _ h => h) (by rfl) (by assumption) ?_ ?_
         rotate_left
         · (intro w hSw; (try dsimp only at hSw); go_simp; try with_reducible rfl)
         try simp only [Act.put, List.setIfInBounds_toArray, List.set_cons_zero, List.set_cons_succ]
         refine take_yes (i := 22) (d := (some 75)) (v := ?_) rfl (by kernel_rfl) (by kernel_rfl) (by kernel_rfl) rfl (fun _ _ _ h => h) (by rfl) (by assumption) ?_ ?_
         rotate_left
         · (intro w hSw; (try dsimp only at hSw); go_simp; try with_reducible rfl)
         try simp only [Act.put, List.setIfInBounds_toArray, List.set_cons_zero, List.set_cons_succ]
         refine wpAnyH_ready (rs := [23]) (by kernel_rfl) (by simp) ?_
         refine (AllReadyH.cons (o := _) rfl (fun K hK => ?_) AllReadyH.nil)
         have fz := frozen_of_row V42 _ 2 _ _ ((HB0.out.block bf hblt.out.1).trans HA.out.hf)
         go_simp
         refine hK.out _ _ ((World.cell?_setCell_far _ _ _ _ hnbf.out).trans hHeld) (fun hHeld => ?_)
         clear fz
         clear hK K
         try simp only [Act.put, List.setIfInBounds_toArray, List.set_cons_zero, List.set_cons_succ]
         refine wpAnyH_done (by kernel_rfl) ?_ _
         go_step
         go_step
         go_meet
         case rel => exact ⟨rfl, Lib.hid ⟨_, _, _, rfl, HO73.out, HB0.out⟩⟩
       · skip
         go_simp
         have b8 : Below V0.heap.size V0 (V0.alloc (.cells #[.int .i64 1, .int .i64 0, .int .i64 0, .slice none 0 0] 33)) := (Below.refl _ _).alloc (Nat.le_refl _) _
         have r9 : RowAt (V0.alloc (.cells #[.int .i64 1, .int .i64 0, .int .i64 0, .slice none 0 0] 33)) 4 (.slice (some ⟨V0.heap.size, 0, none⟩) 1 1) [Ins.cells ⟨1, 0, 0⟩] := row_new V0 33 (Ins.cells ⟨1, 0, 0⟩)
         generalize hg9 : V0.heap.size = g64 at r9 ⊢
         obtain ⟨V43, hV9⟩ : ∃ V, V0.alloc (.cells #[.int .i64 1, .int .i64 0, .int .i64 0, .slice none 0 0] 33) = V := ⟨_, rfl⟩
         rw [hV9] at b8 r9 ⊢
         have b9 := b8.mono HB0.out.size
         replace p2 := (b9).cell (p := ⟨bf, 2, none⟩) hblt.out.1 |>.trans p2
         replace hHeld : HeldN nb bf V43 := ((b9).cell (p := ⟨nb, 1, none⟩) hblt.out.2).trans hHeld
         replace HB0 := Lib.hid (HB0.out.trans (b9))
         have HR64 := Lib.hid r9
         clear b8 b9 r9 hg9 hV9
         refine hK.out _ _ hHeld (fun hHeld => ?_)
         clear hK K
         try simp only [Act.put, List.setIfInBounds_toArray, List.set_cons_zero, List.set_cons_succ]
         refine wpAnyH_ready (rs := [9]) (by kernel_rfl) (by simp) ?_
         refine (AllReadyH.cons (o := _) rfl (fun K hK => ?_) AllReadyH.nil)
         refine step_app ty_ins rfl _ _ rfl rfl (own_nil V43 W6.heap.size _ _) rfl (HR1.out.later HB0.out) HO1.out (by rw [HL1.out]; have h1 := HKL.out; have h2 := HLN.out; exact ⟨by simp; omega, by decide⟩) HB0.out.size ?_
         intro a62 c62 V44 o62 k62 n62
         rw [show ([] : List (List Value)).length + ((C.map Ins.cells).take k).length = k by rw [HL1.out]; simp] at o62 n62 ⊢
         rw [List.nil_append] at o62
         have b9 := own_below (own_nil V43 W6.heap.size 33 4) k62 HB0.out.size
         have b8 : Below V43.heap.size V43 V44 := k62.below (fun j hj => by cases hj) (Nat.le_refl _)
         replace p2 := (b9).cell (p := ⟨bf, 2, none⟩) hblt.out.1 |>.trans p2
         replace hHeld : HeldN nb bf V44 := ((b9).cell (p := ⟨nb, 1, none⟩) hblt.out.2).trans hHeld
         replace HB0 := Lib.hid (HB0.out.trans (b9))
         replace HR64 := Lib.hid (HR64.out.later b8)
         have HO62 := Lib.hid o62
         clear o62 k62 n62 b9 b8
         refine hK.out _ _ hHeld (fun hHeld => ?_)
         clear hK K
         try simp only [Act.put, List.setIfInBounds_toArray, List.set_cons_zero, List.set_cons_succ]
         refine wpAnyH_ready (rs := [12]) (by kernel_rfl) (by simp) ?_
         refine (AllReadyH.cons (o := _) rfl (fun K hK => ?_) AllReadyH.nil)
         refine step_app ty_ins (rows := (C.map Ins.cells).take k) (rows2 := [Ins.cells ⟨1, 0, 0⟩]) rfl _ _ rfl rfl HO62.out rfl HR64.out (fun r hr u hu => by rw [List.mem_singleton.1 hr] at hu; exact ins_cells_one _ u hu) (by have h3 := HL1.out; have h1 := HKL.out; have h2 := HLN.out; exact ⟨by simp only [List.length_cons, List.length_nil]; omega, by decide⟩) HB0.out.size ?_
         intro a65 c65 V45 o65 k65 n65
         rw [show ((C.map Ins.cells).take k).length + ([Ins.cells ⟨1, 0, 0⟩] : List (List Value)).length = k + 1 by rw [HL1.out]; rfl] at o65 n65 ⊢
         have b9 := own_below HO62.out k65 HB0.out.size
         replace p2 := (b9).cell (p := ⟨bf, 2, none⟩) hblt.out.1 |>.trans p2
         replace hHeld : HeldN nb bf V45 := ((b9).cell (p := ⟨nb, 1, none⟩) hblt.out.2).trans hHeld
         replace HB0 := Lib.hid (HB0.out.trans (b9))
         have HO65 := Lib.hid o65
         clear o65 k65 n65 b9 HO62 HR64
         refine hK.out _ _ hHeld (fun hHeld => ?_)
         clear hK K
         try simp only [Act.put, List.setIfInBounds_toArray, List.set_cons_zero, List.set_cons_succ]
         refine wpAnyH_ready (rs := [20]) (by kernel_rfl) (by simp) ?_
         refine (AllReadyH.cons (o := _) rfl (fun K hK => ?_) AllReadyH.nil)
         refine step_app ty_ins (rows := (C.map Ins.cells).take k ++ [Ins.cells ⟨1, 0, 0⟩]) (rows2 := (C.map Ins.cells).drop k) rfl _ _ rfl rfl HO65.out rfl (HR2.out.later HB0.out) HO2.out (by have h4 := HL2.out; have h3 := HL1.out; have h1 := HKL.out; have h2 := HLN.out; exact ⟨by simp only [List.length_cons, List.length_nil, List.length_append]; omega, by decide⟩) HB0.out.size ?_
         intro a73 c73 V46 o73 k73 n73
         rw [show ((C.map Ins.cells).take k ++ [Ins.cells ⟨1, 0, 0⟩]).length + ((C.map Ins.cells).drop k).length = C.length + 1 by rw [List.length_append, HL1.out, HL2.out]; have h1 := HKL.out; simp only [List.length_cons, List.length_nil]; omega] at o73 n73 ⊢
         have b9 := own_below HO65.out k73 HB0.out.size
         replace p2 := (b9).cell (p := ⟨bf, 2, none⟩) hblt.out.1 |>.trans p2
         replace hHeld : HeldN nb bf V46 := ((b9).cell (p := ⟨nb, 1, none⟩) hblt.out.2).trans hHeld
         replace HB0 := Lib.hid (HB0.out.trans (b9))
         have HO73 := Lib.hid o73
         clear o73 k73 n73 b9 HO65
         refine hK.out _ _ hHeld (fun hHeld => ?_)
         clear hK K
         try simp only [Act.put, List.setIfInBounds_toArray, List.set_cons_zero, List.set_cons_succ]
         refine take_yes (i := 21) (d := (some 74)) (v := ?_) rfl (by kernel_rfl) (by kernel_rfl) (by kernel_rfl) rfl (fun _ _ _ h => h) (by rfl) (by assumption) ?_ ?_
         rotate_left
         · (intro w hSw; (try dsimp only at hSw); go_simp; try with_reducible rfl)
         try simp only [Act.put, List.setIfInBounds_toArray, List.set_cons_zero, List.set_cons_succ]
         refine take_yes (i := 22) (d := (some 75)) (v := ?_) rfl (by kernel_rfl) (by kernel_rfl) (by kernel_rfl) rfl (fun _ _ _ h => h) (by rfl) (by assumption) ?_ ?_
         rotate_left
         · (intro w hSw; (try dsimp only at hSw); go_simp; try with_reducible rfl)
         try simp only [Act.put, List.setIfInBounds_toArray, List.set_cons_zero, List.set_cons_succ]
         refine wpAnyH_ready (rs := [23]) (by kernel_rfl) (by simp) ?_
         refine (AllReadyH.cons (o := _) rfl (fun K hK => ?_) AllReadyH.nil)
         have fz := frozen_of_row V46 _ 2 _ _ ((HB0.out.block bf hblt.out.1).trans HA.out.hf)
         go_simp
         refine hK.out _ _ ((World.cell?_setCell_far _ _ _ _ hnbf.out).trans hHeld) (fun hHeld => ?_)
         clear fz
         clear hK K
         try simp only [Act.put, List.setIfInBounds_toArray, List.set_cons_zero, List.set_cons_succ]
         refine wpAnyH_done (by kernel_rfl) ?_ _
         go_step
         go_step
         go_meet
         case rel => exact ⟨rfl, Lib.hid ⟨_, _, _, rfl, HO73.out, HB0.out⟩⟩
     · skip
       go_simp
       have b8 : Below V0.heap.size V0 (V0.alloc (.cells #[.int .i64 1, .int .i64 0, .int .i64 0, .slice none 0 0] 33)) := (Below.refl _ _).alloc (Nat.le_refl _) _
       have r9 : RowAt (V0.alloc (.cells #[.int .i64 1, .int .i64 0, .int .i64 0, .slice none 0 0] 33)) 4 (.slice (some ⟨V0.heap.size, 0, none⟩) 1 1) [Ins.cells ⟨1, 0, 0⟩] := row_new V0 33 (Ins.cells ⟨1, 0, 0⟩)
       generalize hg9 : V0.heap.size = g64 at r9 ⊢
       obtain ⟨V47, hV9⟩ : ∃ V, V0.alloc (.cells #[.int .i64 1, .int .i64 0, .int .i64 0, .slice none 0 0] 33) = V := ⟨_, rfl⟩
       rw [hV9] at b8 r9 ⊢
       have b9 := b8.mono HB0.out.size
       replace p2 := (b9).cell (p := ⟨bf, 2, none⟩) hblt.out.1 |>.trans p2
       replace hHeld : HeldN nb bf V47 := ((b9).cell (p := ⟨nb, 1, none⟩) hblt.out.2).trans hHeld
       replace HB0 := Lib.hid (HB0.out.trans (b9))
       have HR64 := Lib.hid r9
       clear b8 b9 r9 hg9 hV9
       refine hK.out _ _ hHeld (fun hHeld => ?_)
       clear hK K
       try simp only [Act.put, List.setIfInBounds_toArray, List.set_cons_zero, List.set_cons_succ]
       refine wpAnyH_ready (rs := [6]) (by kernel_rfl) (by simp) ?_
       refine (AllReadyH.cons (o := _) rfl (fun K hK => ?_) AllReadyH.nil)
       go_simp
       refine hK.out _ _ hHeld (fun hHeld => ?_)
       clear hK K
       try simp only [Act.put, List.setIfInBounds_toArray, List.set_cons_zero, List.set_cons_succ]
       refine take_yes (i := 8) (d := (some 61)) (v := ?_) rfl (by kernel_rfl) (by kernel_rfl) (by kernel_rfl) rfl (fun _ _ _ h => h) (by rfl) (by assumption) ?_ ?_
       rotate_left
       · (intro w hSw; (try dsimp only at hSw); go_simp; try with_reducible rfl)
       try simp only [Act.put, List.setIfInBounds_toArray, List.set_cons_zero, List.set_cons_succ]
       refine wpAnyH_ready (rs := [9]) (by kernel_rfl) (by simp) ?_
       refine (AllReadyH.cons (o := _) rfl (fun K hK => ?_) AllReadyH.nil)
       refine step_app ty_ins rfl _ _ rfl rfl (own_nil V47 W6.heap.size _ _) rfl (HR1.out.later HB0.out) HO1.out (by rw [HL1.out]; have h1 := HKL.out; have h2 := HLN.out; exact ⟨by simp; omega, by decide⟩) HB0.out.size ?_
       intro a62 c62 V48 o62 k62 n62
       rw [show ([] : List (List Value)).length + ((C.map Ins.cells).take k).length = k by rw [HL1.out]; simp] at o62 n62 ⊢
       rw [List.nil_append] at o62
       have b9 := own_below (own_nil V47 W6.heap.size 33 4) k62 HB0.out.size
       have b8 : Below V47.heap.size V47 V48 := k62.below (fun j hj => by cases hj) (Nat.le_refl _)
       replace p2 := (b9).cell (p := ⟨bf, 2, none⟩) hblt.out.1 |>.trans p2
       replace hHeld : HeldN nb bf V48 := ((b9).cell (p := ⟨nb, 1, none⟩) hblt.out.2).trans hHeld
       replace HB0 := Lib.hid (HB0.out.trans (b9))
       replace HR64 := Lib.hid (HR64.out.later b8)
       have HO62 := Lib.hid o62
       clear o62 k62 n62 b9 b8
       refine hK.out _ _ hHeld (fun hHeld => ?_)
       clear hK K
       try simp only [Act.put, List.setIfInBounds_toArray, List.set_cons_zero, List.set_cons_succ]
       refine wpAnyH_ready (rs := [12]) (by kernel_rfl) (by simp) ?_
       refine (AllReadyH.cons (o := _) rfl (fun K hK => ?_) AllReadyH.nil)
       refine step_app ty_ins (rows := (C.map Ins.cells).take k) (rows2 := [Ins.cells ⟨1, 0, 0⟩]) rfl _ _ rfl rfl HO62.out rfl HR64.out (fun r hr u hu => by rw [List.mem_singleton.1 hr] at hu; exact ins_cells_one _ u hu) (by have h3 := HL1.out; have h1 := HKL.out; have h2 := HLN.out; exact ⟨by simp only [List.length_cons, List.length_nil]; omega, by decide⟩) HB0.out.size ?_
       intro a65 c65 V49 o65 k65 n65
       rw [show ((C.map Ins.cells).take k).length + ([Ins.cells ⟨1, 0, 0⟩] : List (List Value)).length = k + 1 by rw [HL1.out]; rfl] at o65 n65 ⊢
       have b9 := own_below HO62.out k65 HB0.out.size
       replace p2 := (b9).cell (p := ⟨bf, 2, none⟩) hblt.out.1 |>.trans p2
       replace hHeld : HeldN nb bf V49 := ((b9).cell (p := ⟨nb, 1, none⟩) hblt.out.2).trans hHeld
       replace HB0 := Lib.hid (HB0.out.trans (b9))
       have HO65 := Lib.hid o65
       clear o65 k65 n65 b9 HO62 HR64
       refine hK.out _ _ hHeld (fun hHeld => ?_)
       clear hK K
       try simp only [Act.put, List.setIfInBounds_toArray, List.set_cons_zero, List.set_cons_succ]
       refine wpAnyH_ready (rs := [20]) (by kernel_rfl) (by simp) ?_
       refine (AllReadyH.cons (o := _) rfl (fun K hK => ?_) AllReadyH.nil)
       refine step_app ty_ins (rows := (C.map Ins.cells).take k ++ [Ins.cells ⟨1, 0, 0⟩]) (rows2 := (C.map Ins.cells).drop k) rfl _ _ rfl rfl HO65.out rfl (HR2.out.later HB0.out) HO2.out (by have h4 := HL2.out; have h3 := HL1.out; have h1 := HKL.out; have h2 := HLN.out; exact ⟨by simp only [List.length_cons, List.length_nil, List.length_append]; omega, by decide⟩) HB0.out.size ?_
       intro a73 c73 V50 o73 k73 n73
       rw [show ((C.map Ins.cells).take k ++ [Ins.cells ⟨1, 0, 0⟩]).length + ((C.map Ins.cells).drop k).length = C.length + 1 by rw [List.length_append, HL1.out, HL2.out]; have h1 := HKL.out; simp only [List.length_cons, List.length_nil]; omega] at o73 n73 ⊢
       have b9 := own_below HO65.out k73 HB0.out.size
       replace p2 := (b9).cell (p := ⟨bf, 2, none⟩) hblt.out.1 |>.trans p2
       replace hHeld : HeldN nb bf V50 := ((b9).cell (p := ⟨nb, 1, none⟩) hblt.out.2).trans hHeld
       replace HB0 := Lib.hid (HB0.out.trans (b9))
       have HO73 := Lib.hid o73
       clear o73 k73 n73 b9 HO65
       refine hK.out _ _ hHeld (fun hHeld => ?_)
       clear hK K
       try simp only [Act.put, List.setIfInBounds_toArray, List.set_cons_zero, List.set_cons_succ]
       refine take_yes (i := 21) (d := (some 74)) (v := ?_) rfl (by kernel_rfl) (by kernel_rfl) (by kernel_rfl) rfl (fun _ _ _ h => h) (by rfl) (by assumption) ?_ ?_
       rotate_left
       · (intro w hSw; (try dsimp only at hSw); go_simp; try with_reducible rfl)
       try simp only [Act.put, List.setIfInBounds_toArray, List.set_cons_zero, List.set_cons_succ]
       refine take_yes (i := 22) (d := (some 75)) (v := ?_) rfl (by kernel_rfl) (by kernel_rfl) (by kernel_rfl) rfl (fun _ _ _ h => h) (by rfl) (by assumption) ?_ ?_
       rotate_left
       · (intro w hSw; (try dsimp only at hSw); go_simp; try with_reducible rfl)
       try simp only [Act.put, List.setIfInBounds_toArray, List.set_cons_zero, List.set_cons_succ]
       refine wpAnyH_ready (rs := [23]) (by kernel_rfl) (by simp) ?_
       refine (AllReadyH.cons (o := _) rfl (fun K hK => ?_) AllReadyH.nil)
       have fz := frozen_of_row V50 _ 2 _ _ ((HB0.out.block bf hblt.out.1).trans HA.out.hf)
       go_simp
       refine hK.out _ _ ((World.cell?_setCell_far _ _ _ _ hnbf.out).trans hHeld) (fun hHeld => ?_)
       clear fz
       clear hK K
       try simp only [Act.put, List.setIfInBounds_toArray, List.set_cons_zero, List.set_cons_succ]
       refine wpAnyH_done (by kernel_rfl) ?_ _
       go_step
       go_step
       go_meet
       case rel => exact ⟨rfl, Lib.hid ⟨_, _, _, rfl, HO73.out, HB0.out⟩⟩
  case rest =>
   obtain ⟨rfl, HCUT⟩ := hcut
   obtain ⟨a9, c9, V, hwc, hown, hbv⟩ := HCUT.out
   have K8 : Keeps (fun j => j = bf) V wc := by rw [hwc]; exact Keeps.setCell _ _ _ rfl
   have hblv : W6.heap.size ≤ V.heap.size := hbv.size
   have hold : ∀ j, j < W6.heap.size → j ≠ bf → wc.heap[j]? = W6.heap[j]? := fun j hj hne => (K8.block j (by omega) hne).trans (hbv.block j hj)
   have lt6 : ∀ {j : Nat} {o : Obj}, W6.heap[j]? = some o → j < W6.heap.size := fun h => (Array.getElem?_eq_some_iff.1 h).1
   have ht8 := (hold _ (lt6 HA.out.ht) (ne_kind HA.out.ht HA.out.hf (by decide))).trans HA.out.ht
   have hm8 := (hold _ (lt6 HA.out.hm) (ne_kind HA.out.hm HA.out.hf (by decide))).trans HA.out.hm
   have hg8 := (hold _ (lt6 HA.out.hg) (ne_kind HA.out.hg HA.out.hf (by decide))).trans HA.out.hg
   have he8 := (hold _ (lt6 HA.out.he) (ne_kind HA.out.he HA.out.hf (by decide))).trans HA.out.he
   have hd8 := (hold _ (lt6 HA.out.hd) (ne_kind HA.out.hd HA.out.hf (by decide))).trans HA.out.hd
   have hn8 := (hold _ (lt6 HROW.out) (Ne.symm hnbf.out)).trans HROW.out
   have hf8 : wc.heap[bf]? = some (.cells #[.int .i64 0, .string ⟨#[127, 126]⟩, .slice a9 (C.length + 1) c9] 46 (0, 0)) := by
     rw [hwc]
     exact box_set ((hbv.block bf hblt.out.1).trans HA.out.hf) 2 _
   have hcod8 : Cod wc W6.heap.size (.slice a9 (C.length + 1) c9) (nopIns C k) := by
     refine ⟨?_, fun r hr => by obtain ⟨y, _, rfl⟩ := List.mem_map.1 hr; rfl⟩
     have h1 : (nopIns C k).map Ins.cells = (C.map Ins.cells).take k ++ [Ins.cells ⟨1, 0, 0⟩] ++ (C.map Ins.cells).drop k := by
       unfold nopIns
       rw [List.map_append, List.map_append, List.map_take, List.map_drop]
       rfl
     rw [h1]
     exact ownsRow_of hown.1 (fun j hj => K8.block j (hown.1.lt j hj).2 (fun e => by have := (hown.1.lt j hj).1; have := hblt.out.1; omega))
   have hcl8 := nop_len C (Nat.le_of_lt HKL.out)
   have hcode8 := Cod.at hcod8 (by have := HLN.out; omega) (fun x hx => by have h := nop_wf HWF.out x hx; simp [Lit.wf, show IntKind.i64.min = -9223372036854775808 by decide, show IntKind.i64.max = 9223372036854775807 by decide]; have := h.2.2; omega)
   have hmod8 := parts_mod ht8 hf8 hm8 hg8 he8 hcode8 (by have := HLN.out; omega) (by decide) (datas0 hd8)
   rw [modN_self] at hmod8
   have HB8 := Lib.hid (show Below w.heap.size w wc from by
     have h1 := hbv.mono C6.out.size
     have h2 : Below w.heap.size V wc := K8.below (fun j hj => by have h3 := HA.out.low.2.1; have h4 := HLB.out; omega) (by have := C6.out.size; omega)
     exact C6.out.trans (h1.trans h2))
   have henc := enc_own _ _ _ _ _ _ _ _ wc (HEN.out wc HB8.out) hmod8 (fun _ => wok_modOf (nop_wf HWF.out) (by have := HLN.out; omega)) (fun _ => by have h1 := modOf_len (nop_wf (k := k) HWF.out); have h2 := HLN.out; omega)
   have hem : encM (modOf (nopIns C k)) = (modL (modOf (nopIns C k)), 0) := by
     have h1 := modOf_len (nop_wf (k := k) HWF.out)
     have h2 := HLN.out
     unfold encM
     rw [nop_right HKL.out HST.out HOKS.out, if_pos rfl, if_pos (by omega)]
   rw [hem] at henc
   have HMORE := Lib.hid (nop_more C k (by have h1 := flat_len HWF.out; have h2 := HLN.out; omega))
   have HENC := Lib.hid henc
   have HN8 := Lib.hid hn8
   have HLO := Lib.hid (show w.heap.size ≤ nb by have h1 := C5.out.size; have h2 := HNB.out; omega)
   unfold modV slV at HENC
   clear henc hem hmod8 hcode8 hcl8 hcod8 hf8 hd8 he8 hg8 hm8 ht8 hn8 hold hown hbv hwc K8 hblv lt6 HCUT HW6 HROW HA p2 HNB hnb

   have q0 : wc.cell? ⟨nb, 0, none⟩ = some (.slice (some ⟨bt, 0, none⟩) 1 1) := cell_of_row wc _ 0 _ _ _ HN8.out
   have q1 : wc.cell? ⟨nb, 1, none⟩ = some (.slice (some ⟨bf, 0, none⟩) 1 1) := cell_of_row wc _ 1 _ _ _ HN8.out
   have q2 : wc.cell? ⟨nb, 2, none⟩ = some (.slice (some ⟨bm, 0, none⟩) 1 1) := cell_of_row wc _ 2 _ _ _ HN8.out
   have q3 : wc.cell? ⟨nb, 3, none⟩ = some (.slice (some ⟨bg, 0, none⟩) 2 2) := cell_of_row wc _ 3 _ _ _ HN8.out
   have q4 : wc.cell? ⟨nb, 4, none⟩ = some (.slice (some ⟨be, 0, none⟩) 1 1) := cell_of_row wc _ 4 _ _ _ HN8.out
   have q5 : wc.cell? ⟨nb, 5, none⟩ = some (.int .i64 (-1)) := cell_of_row wc _ 5 _ _ _ HN8.out
   have q6 : wc.cell? ⟨nb, 6, none⟩ = some (.slice (some ⟨bd, 0, none⟩) 1 1) := cell_of_row wc _ 6 _ _ _ HN8.out
   go_wp2_with fail
   refine HENC.out.mono ?_
   rintro e w9 ⟨rfl, c9'⟩
   have C9 := Lib.hid (HB8.out.trans (c9'.mono HB8.out.size))
   have HN9 := Lib.hid ((c9'.block nb (Array.getElem?_eq_some_iff.1 HN8.out).1).trans HN8.out)
   clear c9' q0 q1 q2 q3 q4 q5 q6 HENC HN8 HB8 C6 C5
   obtain ⟨SB, hSB⟩ : ∃ SB, bs (modL (modOf (nopIns C k))) = SB := ⟨_, rfl⟩
   have HSB := Lib.hid hSB
   dsimp only
   rw [hSB]
   clear hSB
   go_wp2_with fail
   refine (HM.out w9 C9.out).mono ?_
   rintro e w10 ⟨⟨bt2, bf2, bm2, bg2, be2, bd2, cv2, rfl, hA2⟩, c10⟩
   have hn10 := (c10.block nb (Array.getElem?_eq_some_iff.1 HN9.out).1).trans HN9.out
   have C10 := Lib.hid (C9.out.trans (c10.mono C9.out.size))
   have HA2 := Lib.hid hA2
   have HN10 := Lib.hid hn10
   have HLT := Lib.hid (show nb < w9.heap.size from (Array.getElem?_eq_some_iff.1 HN9.out).1)
   clear hn10 hA2 c10 HN9

   have q0 : w10.cell? ⟨nb, 0, none⟩ = some (.slice (some ⟨bt, 0, none⟩) 1 1) := cell_of_row w10 _ 0 _ _ _ HN10.out
   have q1 : w10.cell? ⟨nb, 1, none⟩ = some (.slice (some ⟨bf, 0, none⟩) 1 1) := cell_of_row w10 _ 1 _ _ _ HN10.out
   have q2 : w10.cell? ⟨nb, 2, none⟩ = some (.slice (some ⟨bm, 0, none⟩) 1 1) := cell_of_row w10 _ 2 _ _ _ HN10.out
   have q3 : w10.cell? ⟨nb, 3, none⟩ = some (.slice (some ⟨bg, 0, none⟩) 2 2) := cell_of_row w10 _ 3 _ _ _ HN10.out
   have q4 : w10.cell? ⟨nb, 4, none⟩ = some (.slice (some ⟨be, 0, none⟩) 1 1) := cell_of_row w10 _ 4 _ _ _ HN10.out
   have q5 : w10.cell? ⟨nb, 5, none⟩ = some (.int .i64 (-1)) := cell_of_row w10 _ 5 _ _ _ HN10.out
   have q6 : w10.cell? ⟨nb, 6, none⟩ = some (.slice (some ⟨bd, 0, none⟩) 1 1) := cell_of_row w10 _ 6 _ _ _ HN10.out
   have f0 := frozen_of_row w10 _ 0 _ _ HN10.out
   have f1 := frozen_of_row w10 _ 1 _ _ HN10.out
   have f2 := frozen_of_row w10 _ 2 _ _ HN10.out
   have f3 := frozen_of_row w10 _ 3 _ _ HN10.out
   have f4 := frozen_of_row w10 _ 4 _ _ HN10.out
   have f5 := frozen_of_row w10 _ 5 _ _ HN10.out
   have f6 := frozen_of_row w10 _ 6 _ _ HN10.out
   unfold madeV modV slV
   go_upto_region 13 with fail
   obtain ⟨W11, hW11⟩ : ∃ W11, (((((((w10.setCell ⟨nb, 0, none⟩ (.slice (some ⟨bt2, 0, none⟩) 1 1)).setCell ⟨nb, 1, none⟩ (.slice (some ⟨bf2, 0, none⟩) 1 1)).setCell ⟨nb, 2, none⟩ (.slice (some ⟨bm2, 0, none⟩) 1 1)).setCell ⟨nb, 3, none⟩ (.slice (some ⟨bg2, 0, none⟩) 2 2)).setCell ⟨nb, 4, none⟩ (.slice (some ⟨be2, 0, none⟩) 1 1)).setCell ⟨nb, 5, none⟩ (.int .i64 (-1))).setCell ⟨nb, 6, none⟩ (.slice (some ⟨bd2, 0, none⟩) 1 1)) = W11 := ⟨_, rfl⟩
   obtain ⟨hr11, hz11, hk11⟩ := seven_set HN10.out _ _ _ _ _ _ _ _ hW11
   rw [hW11]
   clear hW11 q0 q1 q2 q3 q4 q5 q6 f0 f1 f2 f3 f4 f5 f6
   have ne11 : ∀ {j : Nat} {cs : Array Value} {t : TypeId}, w10.heap[j]? = some (.cells cs t (0, 0)) → t ≠ 29 → W11.heap[j]? = some (.cells cs t (0, 0)) := fun h ht => (hk11.block _ (Array.getElem?_eq_some_iff.1 h).1 (ne_kind h HN10.out ht)).trans h
   have ht11 := ne11 HA2.out.ht (by decide)
   have hf11 := ne11 HA2.out.hf (by decide)
   have hm11 := ne11 HA2.out.hm (by decide)
   have hg11 := ne11 HA2.out.hg (by decide)
   have he11 := ne11 HA2.out.he (by decide)
   have hd11 := ne11 HA2.out.hd (by decide)
   have hrow11 := ownsRow_of (w' := W11) HA2.out.hc (fun j hj => hk11.block j (HA2.out.hc.lt j hj).2 (fun e => by have h1 := (HA2.out.hc.lt j hj).1; have h2 := HLT.out; omega))
   have B11 : Below w.heap.size w W11 := C10.out.trans (hk11.below (fun j hj => by have := HLO.out; omega) C10.out.size)
   obtain ⟨W12, hW12⟩ : ∃ W12, W11.setCell ⟨be2, 0, none⟩ (.string nm) = W12 := ⟨_, rfl⟩
   have hk12 : Keeps (fun j => j = be2) W11 W12 := by rw [← hW12]; exact Keeps.setCell _ _ _ rfl
   have he12 : W12.heap[be2]? = some (.cells #[.string nm, .int .i64 0, .int .i64 0] 48 (0, 0)) := by rw [← hW12]; exact box_set he11 0 _
   have ne12 : ∀ {j : Nat} {cs : Array Value} {t : TypeId}, W11.heap[j]? = some (.cells cs t (0, 0)) → t ≠ 48 → W12.heap[j]? = some (.cells cs t (0, 0)) := fun h ht => (hk12.block _ (Array.getElem?_eq_some_iff.1 h).1 (ne_kind h he11 ht)).trans h
   have hrow12 := ownsRow_of (w' := W12) hrow11 (fun j hj => hk12.block j (hrow11.lt j hj).2 (fun e => by
     subst e
     exact kind_ne hrow11 he11 (by decide) hj))
   have hmod12 := parts_mod (ne12 ht11 (by decide)) (ne12 hf11 (by decide)) (ne12 hm11 (by decide)) (ne12 hg11 (by decide)) he12 (code_at hrow12 HA2.out.room HA2.out.wf) HA2.out.room (by have := HNM.out; omega) (datas0 (ne12 hd11 (by decide)))
   have B12 := Lib.hid (show Below w.heap.size w W12 from B11.trans (hk12.below (fun j hj => by have h1 := HA2.out.low.2.2.2.2.1; have h2 := C9.out.size; omega) B11.size))
   have HN12 := Lib.hid (ne12 hr11 (by decide))
   have hsz12 : (modL (modN C nm dat0)).length ≤ 140737488350000 := by
     have h1 := modN_len (nm := nm) (dat := dat0) HWF.out (Nat.le_of_eq (show (sectL 11 dat0.length (listL dataL dat0)).length = 19 by kernel_rfl))
     have h2 := HLN.out
     have h3 := HNM.out
     omega
   have henc := enc_own _ _ _ _ _ _ _ _ W12 (HEN.out W12 B12.out) hmod12 (fun _ => wok_modN HWF.out (by have := HLN.out; omega) (by have := HNM.out; omega) (fun p hp => by rw [List.mem_singleton.1 hp]; decide)) (fun _ => hsz12)
   have HENC := Lib.hid henc
   have HW12 := Lib.hid hW12
   have qe : W11.cell? ⟨nb, 4, none⟩ = some (.slice (some ⟨be2, 0, none⟩) 1 1) := cell_of_row W11 _ 4 _ _ _ hr11
   have ge := cell_of_row W11 _ 0 _ _ _ he11
   replace ge : W11.cell? ⟨be2, 0, none⟩ = some (.string ⟨#[102]⟩) := ge
   have fe := frozen_of_row W11 _ 0 _ _ he11
   unfold modV slV at HENC
   clear henc hmod12 hsz12 hrow12 ne12 he12 hk12 hW12 B11 hrow11 ht11 hf11 hm11 hg11 hd11 ne11 hk11 hz11 he11 hr11
   go_upto_region 14 with fail
   rw [HW12.out]
   clear qe ge fe

   have q0 : W12.cell? ⟨nb, 0, none⟩ = some (.slice (some ⟨bt2, 0, none⟩) 1 1) := cell_of_row W12 _ 0 _ _ _ HN12.out
   have q1 : W12.cell? ⟨nb, 1, none⟩ = some (.slice (some ⟨bf2, 0, none⟩) 1 1) := cell_of_row W12 _ 1 _ _ _ HN12.out
   have q2 : W12.cell? ⟨nb, 2, none⟩ = some (.slice (some ⟨bm2, 0, none⟩) 1 1) := cell_of_row W12 _ 2 _ _ _ HN12.out
   have q3 : W12.cell? ⟨nb, 3, none⟩ = some (.slice (some ⟨bg2, 0, none⟩) 2 2) := cell_of_row W12 _ 3 _ _ _ HN12.out
   have q4 : W12.cell? ⟨nb, 4, none⟩ = some (.slice (some ⟨be2, 0, none⟩) 1 1) := cell_of_row W12 _ 4 _ _ _ HN12.out
   have q5 : W12.cell? ⟨nb, 5, none⟩ = some (.int .i64 (-1)) := cell_of_row W12 _ 5 _ _ _ HN12.out
   have q6 : W12.cell? ⟨nb, 6, none⟩ = some (.slice (some ⟨bd2, 0, none⟩) 1 1) := cell_of_row W12 _ 6 _ _ _ HN12.out
   obtain ⟨SC, hSC⟩ : ∃ SC, bs (encM (modN C nm dat0)).1 = SC := ⟨_, rfl⟩
   obtain ⟨EC, hEC⟩ : ∃ EC, (encM (modN C nm dat0)).2 = EC := ⟨_, rfl⟩
   rw [hSC, hEC] at HENC
   have HCE := Lib.hid (show EC = 0 → (SC = SA ↔ nm = ⟨#[102]⟩) by
     intro h0
     have h1 : encM (modN C nm dat0) = (modL (modN C nm dat0), 0) := by
       unfold encM at hEC ⊢
       by_cases hr : rightM (modN C nm dat0) = true
       · rw [if_pos hr] at hEC ⊢
         by_cases hz : (modL (modN C nm dat0)).length ≤ 1048576
         · rw [if_pos hz]
         · rw [if_neg hz] at hEC
           exact absurd (hEC.trans h0) (by decide)
       · rw [if_neg hr] at hEC
         exact absurd (hEC.trans h0) (by decide)
     rw [← hSC, ← HSA.out, h1]
     exact ⟨fun h => (name_eq C nm (by have := HNM.out; omega)).1 (bs_inj h), fun h => congrArg bs ((name_eq C nm (by have := HNM.out; omega)).2 h)⟩)
   clear hSC hEC
   go_wp2_with fail
   refine HENC.out.mono ?_
   rintro e w13 ⟨rfl, c13⟩
   have C13 := Lib.hid (B12.out.trans (c13.mono B12.out.size))
   have HN13 := Lib.hid ((c13.block nb (Array.getElem?_eq_some_iff.1 HN12.out).1).trans HN12.out)
   clear c13 q0 q1 q2 q3 q4 q5 q6 HENC HN12 B12 HW12 HA2 C10 C9 HN10
   go_wp2_with fail
   refine (HM.out w13 C13.out).mono ?_
   rintro e w14 ⟨⟨bt3, bf3, bm3, bg3, be3, bd3, cv3, rfl, hA3⟩, c14⟩
   have hn14 := (c14.block nb (Array.getElem?_eq_some_iff.1 HN13.out).1).trans HN13.out
   have C14 := Lib.hid (C13.out.trans (c14.mono C13.out.size))
   have HA3 := Lib.hid hA3
   have HN14 := Lib.hid hn14
   have HLT3 := Lib.hid (show nb < w13.heap.size from (Array.getElem?_eq_some_iff.1 HN13.out).1)
   clear hn14 hA3 c14 HN13

   have q0 : w14.cell? ⟨nb, 0, none⟩ = some (.slice (some ⟨bt2, 0, none⟩) 1 1) := cell_of_row w14 _ 0 _ _ _ HN14.out
   have q1 : w14.cell? ⟨nb, 1, none⟩ = some (.slice (some ⟨bf2, 0, none⟩) 1 1) := cell_of_row w14 _ 1 _ _ _ HN14.out
   have q2 : w14.cell? ⟨nb, 2, none⟩ = some (.slice (some ⟨bm2, 0, none⟩) 1 1) := cell_of_row w14 _ 2 _ _ _ HN14.out
   have q3 : w14.cell? ⟨nb, 3, none⟩ = some (.slice (some ⟨bg2, 0, none⟩) 2 2) := cell_of_row w14 _ 3 _ _ _ HN14.out
   have q4 : w14.cell? ⟨nb, 4, none⟩ = some (.slice (some ⟨be2, 0, none⟩) 1 1) := cell_of_row w14 _ 4 _ _ _ HN14.out
   have q5 : w14.cell? ⟨nb, 5, none⟩ = some (.int .i64 (-1)) := cell_of_row w14 _ 5 _ _ _ HN14.out
   have q6 : w14.cell? ⟨nb, 6, none⟩ = some (.slice (some ⟨bd2, 0, none⟩) 1 1) := cell_of_row w14 _ 6 _ _ _ HN14.out
   have f0 := frozen_of_row w14 _ 0 _ _ HN14.out
   have f1 := frozen_of_row w14 _ 1 _ _ HN14.out
   have f2 := frozen_of_row w14 _ 2 _ _ HN14.out
   have f3 := frozen_of_row w14 _ 3 _ _ HN14.out
   have f4 := frozen_of_row w14 _ 4 _ _ HN14.out
   have f5 := frozen_of_row w14 _ 5 _ _ HN14.out
   have f6 := frozen_of_row w14 _ 6 _ _ HN14.out
   unfold madeV modV slV
   go_upto_region 16 with fail
   obtain ⟨W15, hW15⟩ : ∃ W15, (((((((w14.setCell ⟨nb, 0, none⟩ (.slice (some ⟨bt3, 0, none⟩) 1 1)).setCell ⟨nb, 1, none⟩ (.slice (some ⟨bf3, 0, none⟩) 1 1)).setCell ⟨nb, 2, none⟩ (.slice (some ⟨bm3, 0, none⟩) 1 1)).setCell ⟨nb, 3, none⟩ (.slice (some ⟨bg3, 0, none⟩) 2 2)).setCell ⟨nb, 4, none⟩ (.slice (some ⟨be3, 0, none⟩) 1 1)).setCell ⟨nb, 5, none⟩ (.int .i64 (-1))).setCell ⟨nb, 6, none⟩ (.slice (some ⟨bd3, 0, none⟩) 1 1)) = W15 := ⟨_, rfl⟩
   obtain ⟨hr15, hz15, hk15⟩ := seven_set HN14.out _ _ _ _ _ _ _ _ hW15
   rw [hW15]
   clear hW15 q0 q1 q2 q3 q4 q5 q6 f0 f1 f2 f3 f4 f5 f6
   obtain ⟨W16, hW16⟩ : ∃ W16, W15.setCell ⟨nb, 6, none⟩ (.slice none 0 0) = W16 := ⟨_, rfl⟩
   have hk16 : Keeps (fun j => j = nb) w14 W16 := keeps_then hk15 (by rw [← hW16]; exact Keeps.setCell _ _ _ rfl)
   have hr16 : W16.heap[nb]? = some (.cells #[.slice (some ⟨bt3, 0, none⟩) 1 1, .slice (some ⟨bf3, 0, none⟩) 1 1, .slice (some ⟨bm3, 0, none⟩) 1 1, .slice (some ⟨bg3, 0, none⟩) 2 2, .slice (some ⟨be3, 0, none⟩) 1 1, .int .i64 (-1), .slice none 0 0] 29 (0, 0)) := by rw [← hW16]; exact box_set hr15 6 _
   have ne16 : ∀ {j : Nat} {cs : Array Value} {t : TypeId}, w14.heap[j]? = some (.cells cs t (0, 0)) → t ≠ 29 → W16.heap[j]? = some (.cells cs t (0, 0)) := fun h ht => (hk16.block _ (Array.getElem?_eq_some_iff.1 h).1 (ne_kind h HN14.out ht)).trans h
   have hrow16 := ownsRow_of (w' := W16) HA3.out.hc (fun j hj => hk16.block j (HA3.out.hc.lt j hj).2 (fun e => by have h1 := (HA3.out.hc.lt j hj).1; have h2 := HLT3.out; omega))
   have hmod16 := parts_mod (dv := .slice none 0 0) (dat := []) (ne16 HA3.out.ht (by decide)) (ne16 HA3.out.hf (by decide)) (ne16 HA3.out.hm (by decide)) (ne16 HA3.out.hg (by decide)) (ne16 HA3.out.he (by decide)) (code_at hrow16 HA3.out.room HA3.out.wf) HA3.out.room (by decide) (list_nil _)
   have B16 := Lib.hid (show Below w.heap.size w W16 from C14.out.trans (hk16.below (fun j hj => by have := HLO.out; omega) C14.out.size))
   have hsz16 : (modL (modN C ⟨#[102]⟩ [])).length ≤ 100000 := by
     have h1 := modN_len (nm := ⟨#[102]⟩) (dat := []) HWF.out (Nat.le_trans (Nat.le_of_eq (show (sectL 11 ([] : List DataP).length (listL dataL [])).length = 0 by kernel_rfl)) (by decide))
     have h2 := HLN.out
     have h3 : (⟨#[102]⟩ : ByteArray).size = 1 := rfl
     omega
   have henc := enc_own _ _ _ _ _ _ _ _ W16 (HEN.out W16 B16.out) hmod16 (fun _ => wok_modN HWF.out (by have := HLN.out; omega) (by decide) (fun p hp => by cases hp)) (fun _ => by omega)
   have hem : encM (modN C ⟨#[102]⟩ []) = (modL (modN C ⟨#[102]⟩ []), 0) := by
     unfold encM
     rw [right_modN C ⟨#[102]⟩ [] HST.out HOKS.out rfl, show nameB ⟨#[102]⟩ = true by kernel_rfl, if_pos rfl, if_pos (by omega)]
   rw [hem] at henc
   have HENC := Lib.hid henc
   have HW16 := Lib.hid hW16
   have g6 := cell_of_row W15 _ 6 _ _ _ hr15
   replace g6 : W15.cell? ⟨nb, 6, none⟩ = some (.slice (some ⟨bd3, 0, none⟩) 1 1) := g6
   have f6 := frozen_of_row W15 _ 6 _ _ hr15
   have HN16 := Lib.hid hr16
   unfold modV slV at HENC
   clear henc hem hmod16 hsz16 hrow16 ne16 hk16 hW16 hr16 hr15 hz15 hk15
   go_upto_region 17 with fail
   rw [HW16.out]
   clear g6 f6

   have q0 : W16.cell? ⟨nb, 0, none⟩ = some (.slice (some ⟨bt3, 0, none⟩) 1 1) := cell_of_row W16 _ 0 _ _ _ HN16.out
   have q1 : W16.cell? ⟨nb, 1, none⟩ = some (.slice (some ⟨bf3, 0, none⟩) 1 1) := cell_of_row W16 _ 1 _ _ _ HN16.out
   have q2 : W16.cell? ⟨nb, 2, none⟩ = some (.slice (some ⟨bm3, 0, none⟩) 1 1) := cell_of_row W16 _ 2 _ _ _ HN16.out
   have q3 : W16.cell? ⟨nb, 3, none⟩ = some (.slice (some ⟨bg3, 0, none⟩) 2 2) := cell_of_row W16 _ 3 _ _ _ HN16.out
   have q4 : W16.cell? ⟨nb, 4, none⟩ = some (.slice (some ⟨be3, 0, none⟩) 1 1) := cell_of_row W16 _ 4 _ _ _ HN16.out
   have q5 : W16.cell? ⟨nb, 5, none⟩ = some (.int .i64 (-1)) := cell_of_row W16 _ 5 _ _ _ HN16.out
   have q6 : W16.cell? ⟨nb, 6, none⟩ = some (.slice none 0 0) := cell_of_row W16 _ 6 _ _ _ HN16.out
   have HLESS := Lib.hid (data_less C)
   obtain ⟨SD, hSD⟩ : ∃ SD, bs (modL (modN C ⟨#[102]⟩ [])) = SD := ⟨_, rfl⟩
   dsimp only at HENC
   rw [hSD] at HENC
   have h1 : SA.size < SB.size := by have := HMORE.out; rw [← HSA.out, ← HSB.out, bs_size, bs_size]; exact this
   have h2 : SD.size < SA.size := by have := HLESS.out; rw [← HSA.out, ← hSD, bs_size, bs_size]; exact this
   have h1z : (SA.size : Int) < (SB.size : Int) := by omega
   have h2z : (SD.size : Int) < (SA.size : Int) := by omega
   clear hSD h1 h2
   go_wp2_with fail
   refine HENC.out.mono ?_
   rintro e w17 ⟨rfl, c17⟩
   have CF := Lib.hid (B16.out.trans (c17.mono B16.out.size))
   clear c17 q0 q1 q2 q3 q4 q5 q6
   by_cases he0 : EC = 0
   · subst he0
     have hiff := HCE.out rfl
     by_cases hn : nm = ⟨#[102]⟩
     · have hs : SC = SA := hiff.2 hn
       subst hn
       subst hs
       have e1 : (SC.toList == SC.toList) = true := by simp
       have e2 : ((⟨#[102]⟩ : ByteArray).toList == (⟨#[102]⟩ : ByteArray).toList) = true := by simp
       clear hiff
       go_wp2_with fail
       go_ret
       exact ⟨rfl, CF.out⟩
     · have hs : ¬ SC = SA := fun h => hn (hiff.1 h)
       have e1 : (SC.toList == SA.toList) = false := by
         rw [ByteArray.toList_eq, ByteArray.toList_eq, beq_eq_false_iff_ne]
         intro h
         exact hs (by rw [← bs_self SC, h, bs_self])
       have e2 : (nm.toList == (⟨#[102]⟩ : ByteArray).toList) = false := by
         rw [ByteArray.toList_eq, ByteArray.toList_eq, beq_eq_false_iff_ne]
         intro h
         exact hn (by rw [← bs_self nm, h, bs_self])
       have e3 : (nm.toList == [102]) = false := by
         rw [ByteArray.toList_eq, beq_eq_false_iff_ne]
         intro h
         exact hn (by rw [← bs_self nm, h]; rfl)
       clear hiff hn hs
       go_wp2_with fail
       go_ret
       exact ⟨rfl, CF.out⟩
   · have e1 : (EC == 0) = false := by rw [beq_eq_false_iff_ne]; exact he0
     have e2 : (EC != 0) = true := by rw [bne, e1]; rfl
     clear he0
     go_wp2_with fail
     go_ret
     exact ⟨rfl, CF.out⟩

end Go.Proofs.YtofepnojhghnnaaGreatDoor.Enc
