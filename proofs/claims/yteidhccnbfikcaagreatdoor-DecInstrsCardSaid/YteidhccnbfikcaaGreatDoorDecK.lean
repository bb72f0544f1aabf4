/-
  What the reader's instr reads, and Instr. No condition beyond what each theorem names.
-/
import Derived.Test.YteidhccnbfikcaaGreatDoorDecI
import Derived.Test.YteidhccnbfikcaaGreatDoorDecJ
import Derived.Test.YteidhccnbfikcaaGreatDoorDeP
namespace Go.Proofs.YteidhccnbfikcaaGreatDoor.Dec
open Go.RowKit Go.Maps Go.Proofs.YteidhccnbfikcaaGreatDoor.Op Go.Proofs.YteidhccnbfikcaaGreatDoor.Mod Go.Proofs.YteidhccnbfikcaaGreatDoor.Leb Go.Proofs.YteidhccnbfikcaaGreatDoor.Enc
set_option linter.unusedVariables false
set_option linter.unusedSimpArgs false
variable {w0 w w' W W' : World} {rb mb : Nat} {s : ByteArray} {r r' : RS}
set_option maxRecDepth 100000 in
set_option maxHeartbeats 4000000 in
theorem ri_s3 (h : Rd w0 w rb mb s r) {B : Nat} {q : RS} (hb : oneP s.data.toList r = (B, q)) (hB : B < 256) (hfl : floatB (B : Int) = false) (h17 : B ≠ 17) (nm ps rs : ByteArray) (hi : (opInfo (B : Int)).getD zeroI = ⟨nm, 3, ps, rs⟩) (hsm : (opInfo (B : Int)).isSome = true) (hq : q.e = 0) {zs : List Int} {n : Int} {q1 Q : RS} (hl : listP numberP s.data.toList q = (zs, q1)) (hn : numberP s.data.toList q1 = (n, Q)) :
    Calls Tryz.prog 89 #[.pointer (some ⟨rb, 0, none⟩)] w (GotI w0 w rb mb s ⟨(B : Int), n, 0, zs⟩ Q) := by
  have HL := Lib.hid hl
  have HN := Lib.hid hn
  clear hl hn
  have hq17 : ((B : Int) == 17) = false := beq_eq_false_iff_ne.2 (by omega)
  have HQE := Lib.hid hq
  clear h17 hq
  have X1 := Lib.hid (XI.new h #[.int .i64 0, .int .i64 0, .int .i64 0, .slice none 0 0])
  have HONE := Lib.hid (rd_one X1.out.rd hb)
  have hwb := wbyte hB
  have HB := Lib.hid hB
  have HI := Lib.hid hi
  have HS := Lib.hid hsm
  clear h hb hB hi hsm
  go_enter Tryz.func89, Tryz.ntmps89
  go_upto_region 1 with fail
  obtain ⟨W1, hW1⟩ : ∃ W1, w.alloc (.cells #[.int .i64 0, .int .i64 0, .int .i64 0, .slice none 0 0] 33) = W1 := ⟨_, rfl⟩
  rw [hW1] at HONE X1 ⊢
  clear hW1
  go_wp2_with fail
  refine HONE.out.mono ?_
  rintro e w2 ⟨rfl, h2, k2⟩
  have X2 := Lib.hid (X1.out.step h2 k2)
  clear h2 k2
  go_wp2_with fail
  refine (float_any (B : Int) w2).mono ?_
  rintro e w3 ⟨rfl, c3⟩
  have X3 := Lib.hid (X2.out.later c3)
  clear c3
  rw [hfl]
  go_wp2_with fail
  refine (rd_fail X3.out.rd false 3).mono ?_
  rintro e w4 ⟨rfl, h4, k4⟩
  have X4 := Lib.hid (X3.out.step h4 k4)
  clear h4 k4
  go_wp2_with fail
  refine (rd_info X4.out.rd HB.out nm 3 ps rs true HI.out HS.out).mono ?_
  rintro e w5 ⟨rfl, h5, k5⟩
  have X5 := Lib.hid (X4.out.step h5 k5)
  clear h5 k5
  go_upto_region 4 with fail
  obtain ⟨W6, hW6⟩ : ∃ W6, w5.alloc (.cells #[.string nm, .int .i64 3, .string ps, .string rs] 90) = W6 := ⟨_, rfl⟩
  have B6 : Below w5.heap.size w5 W6 := by rw [← hW6]; exact (Below.refl _ _).alloc (Nat.le_refl _) _
  have i1 := cell_of_row W6 _ 1 _ _ _ (show W6.heap[w5.heap.size]? = some (.cells #[.string nm, .int .i64 3, .string ps, .string rs] 90 (0, 0)) by rw [← hW6]; exact heap_alloc_new _ _)
  have X6 := Lib.hid (X5.out.later B6)
  have z6 : w5.heap.size < W6.heap.size := by rw [← hW6]; simp
  have n6 : w.heap.size < w5.heap.size := X5.out.size
  rw [hW6]
  clear hW6 B6
  go_wp2_with fail
  refine (rd_fail X6.out.rd (!true) 2).mono ?_
  rintro e w7 ⟨rfl, h7, k7⟩
  have X7 := Lib.hid (X6.out.step h7 k7)
  replace i1 := k7.cell i1 (fun e => by have := X5.out.lt; rcases e with e | e <;> (dsimp only at e; omega))
  rw [show failP (!true) 2 (failP false 3 q) = q by rw [Bool.not_true, fail_ok, fail_ok]] at X7
  clear h7 k7
  have c2 := X7.out.rd.rd.c2
  rw [HQE.out] at c2
  have f0 := X7.out.fz 0
  have t0 := X7.out.cell 0 (.int .i64 0) rfl
  have X8 := Lib.hid (X7.out.set 0 (.int .i64 (B : Int)))
  replace i1 : (w7.setCell ⟨w.heap.size, 0, none⟩ (.int .i64 (B : Int))).cell? ⟨w5.heap.size, 1, none⟩ = _ := (Keeps.setCell (F := fun j => j = w.heap.size) w7 ⟨w.heap.size, 0, none⟩ (.int .i64 (B : Int)) rfl).cell i1 (by show ¬ w5.heap.size = w.heap.size; omega)
  obtain ⟨W8, hW8⟩ : ∃ W8, w7.setCell ⟨w.heap.size, 0, none⟩ (.int .i64 (B : Int)) = W8 := ⟨_, rfl⟩
  rw [hW8] at X8 i1
  have HW8 := Lib.hid hW8
  clear hW8
  go_upto_region 8 with fail
  rw [HW8.out]
  clear c2 f0 t0
  go_wp2_with fail
  refine (rd_ints X8.out.rd HL.out).mono ?_
  rintro e w9 ⟨v, rfl, o9, l9, h9, k9⟩
  have X9 := Lib.hid (X8.out.step h9 k9)
  have HLL := Lib.hid l9
  have HLO := Lib.hid X8.out.size
  obtain ⟨va, vc, rfl⟩ := own_form o9.1
  have hlen : (cellsI zs).length = zs.length := by unfold cellsI; rw [List.length_map]
  rw [hlen] at o9 ⊢
  have O9 := Lib.hid o9
  clear h9 k9 o9 l9 i1
  have f3 := X9.out.fz 3
  have t3 := X9.out.cell 3 (.slice none 0 0) rfl
  have X10 := Lib.hid (X9.out.set 3 (.slice va zs.length vc))
  obtain ⟨W10, hW10⟩ : ∃ W10, w9.setCell ⟨w.heap.size, 3, none⟩ (.slice va zs.length vc) = W10 := ⟨_, rfl⟩
  rw [hW10] at X10
  have HW10 := Lib.hid hW10
  clear hW10
  go_upto_region 19 with fail
  rw [HW10.out]
  clear f3 t3
  have O10 := Lib.hid (show OwnAt W10 W8.heap.size 3 1 _ _ by
    rw [← HW10.out]
    exact own_kept O9.out (Keeps.setCell (F := fun j => j = w.heap.size) _ _ _ rfl) (fun j hj hn => by have := (O9.out.1.lt j hj).1; have := HLO.out; omega))
  go_wp2_with fail
  refine (rd_number X10.out.rd HN.out).mono ?_
  rintro e w11 ⟨rfl, h11, k11⟩
  have X11 := Lib.hid (X10.out.step h11 k11)
  have O11 := Lib.hid (own_kept O10.out k11 (fun j hj hn => by have h1 := (O10.out.1.lt j hj).1; have h2 := HLO.out; have h3 := X8.out.lt; omega))
  clear h11 k11
  have f1 := X11.out.fz 1
  have t1 := X11.out.cell 1 (.int .i64 0) rfl
  have X12 := Lib.hid (X11.out.set 1 (.int .i64 n))
  obtain ⟨W12, hW12⟩ : ∃ W12, w11.setCell ⟨w.heap.size, 1, none⟩ (.int .i64 n) = W12 := ⟨_, rfl⟩
  rw [hW12] at X12
  have HW12 := Lib.hid hW12
  clear hW12
  go_upto_region 29 with fail
  rw [HW12.out]
  clear f1 t1
  have HOW := Lib.hid (show OwnAt W12 W8.heap.size 3 1 (.slice va zs.length vc) (cellsI zs) by
    rw [← HW12.out]
    exact own_kept O11.out (Keeps.setCell (F := fun j => j = w.heap.size) _ _ _ rfl) (fun j hj hn => by have := (O11.out.1.lt j hj).1; have := HLO.out; omega))
  have HOB := Lib.hid (show OwnAt W12 w.heap.size 3 1 (.slice va zs.length vc) (cellsI zs) from ⟨ownsRow_base HOW.out.1 (by have := HLO.out; omega), HOW.out.2⟩)
  have f0 := X12.out.fz 0
  have f1 := X12.out.fz 1
  have f2 := X12.out.fz 2
  have f3 := X12.out.fz 3
  have t0 := X12.out.cell 0 (.int .i64 (B : Int)) rfl
  have t1 := X12.out.cell 1 (.int .i64 n) rfl
  have t2 := X12.out.cell 2 (.int .i64 0) rfl
  have t3 := X12.out.cell 3 (.slice va zs.length vc) rfl
  have X20 := Lib.hid ((((X12.out.set 0 (.int .i64 (B : Int))).set 1 (.int .i64 n)).set 2 (.int .i64 0)).set 3 (.slice va zs.length vc))
  obtain ⟨W20, hW20⟩ : ∃ W20, (((W12.setCell ⟨w.heap.size, 0, none⟩ (.int .i64 (B : Int))).setCell ⟨w.heap.size, 1, none⟩ (.int .i64 n)).setCell ⟨w.heap.size, 2, none⟩ (.int .i64 0)).setCell ⟨w.heap.size, 3, none⟩ (.slice va zs.length vc) = W20 := ⟨_, rfl⟩
  rw [hW20] at X20
  have HW20 := Lib.hid hW20
  have OW20 := Lib.hid (show OwnAt W20 w.heap.size 3 1 _ _ by
    rw [← hW20]
    exact own_kept HOB.out (keeps_then (keeps_then (keeps_then (Keeps.setCell (F := fun j => j = w.heap.size) _ _ _ rfl) (Keeps.setCell _ _ _ rfl)) (Keeps.setCell _ _ _ rfl)) (Keeps.setCell _ _ _ rfl)) (fun j hj hn => by have := (HOW.out.1.lt j hj).1; have := HLO.out; omega))
  clear hW20
  have r0 : W20.cell? ⟨w.heap.size, 0, none⟩ = some (.int .i64 (B : Int)) := X20.out.cell 0 _ rfl
  have r1 : W20.cell? ⟨w.heap.size, 1, none⟩ = some (.int .i64 n) := X20.out.cell 1 _ rfl
  have r2 : W20.cell? ⟨w.heap.size, 2, none⟩ = some (.int .i64 0) := X20.out.cell 2 _ rfl
  have r3 : W20.cell? ⟨w.heap.size, 3, none⟩ = some (.slice va zs.length vc) := X20.out.cell 3 _ rfl
  go_wp2_with fail
  rw [HW20.out]
  (try simp only [Exit.inBlock, Exit.then])
  refine bodyPost_ret (v := .agg #[.int .i64 (B : Int), .int .i64 n, .int .i64 0, .slice va zs.length vc]) (by simp [results, Tryz.results89, go_sem, r0, r1, r2, r3]) rfl ?_
  exact ⟨_, rfl, OW20.out, HLL.out, X20.out.rd, X20.out.keep⟩
theorem fail_zero {g : Bool} {c : Int} {r : RS} (hc : c ≠ 0) (h : (failP g c r).e = 0) : g = false ∧ r.e = 0 := by
  unfold failP at h
  split at h
  · exact absurd h hc
  · rename_i h1
    refine ⟨?_, h⟩
    cases g with
    | false => rfl
    | true => exact absurd ⟨rfl, h⟩ h1
/-- the reader's instr -/
theorem instr_any (h : Rd w0 w rb mb s r) {X : InsL} {Q : RS} (hx : instrP s.data.toList r = (X, Q)) :
    Calls Tryz.prog 89 #[.pointer (some ⟨rb, 0, none⟩)] w (GotI w0 w rb mb s X Q) := by
  obtain ⟨B, q, hb⟩ : ∃ B q, oneP s.data.toList r = (B, q) := ⟨_, _, rfl⟩
  have hB : B < 256 := by have := (one_bounds s r h.pos).1; rw [hb] at this; exact this
  have hqp : q.pos ≤ s.size := by have := (one_bounds s r h.pos).2; rw [hb] at this; exact this
  obtain ⟨⟨nm, sh, ps, rs⟩, hi⟩ : ∃ i, (opInfo (B : Int)).getD zeroI = i := ⟨_, rfl⟩
  obtain ⟨kn, hsm⟩ : ∃ kn, (opInfo (B : Int)).isSome = kn := ⟨_, rfl⟩
  obtain ⟨g, hg⟩ : ∃ g, (floatB (B : Int) || B == 17) = g := ⟨_, rfl⟩
  by_cases he : (failP (!kn) 2 (failP g 3 q)).e = 0
  · obtain ⟨k1, k2⟩ := fail_zero (by decide) he
    obtain ⟨g1, hq⟩ := fail_zero (by decide) k2
    have hkn : kn = true := by cases kn <;> simp_all
    subst g1 hkn
    rw [Bool.or_eq_false_iff] at hg
    have h17 : B ≠ 17 := by simpa using hg.2
    rw [instr_rest _ _ hb hq hg.1 h17 hsm] at hx
    have hshp : shapeOf (B : Int) = sh := by unfold shapeOf; rw [hi]
    unfold restP at hx
    rw [hshp] at hx
    have hr : 0 ≤ sh ∧ sh ≤ 7 := by
      obtain ⟨i, hi2⟩ := Option.isSome_iff_exists.1 hsm
      have := shape_range hi2
      rw [hi2] at hi
      change i = _ at hi
      rw [hi] at this
      exact this
    rcases (show sh = 0 ∨ sh = 1 ∨ sh = 2 ∨ sh = 3 ∨ sh = 4 ∨ sh = 5 ∨ sh = 6 ∨ sh = 7 by omega) with rfl | rfl | rfl | rfl | rfl | rfl | rfl | rfl
    · rw [if_neg (by decide), if_neg (by decide), if_neg (by decide), if_neg (by decide), if_neg (by decide), if_neg (by decide)] at hx
      obtain ⟨rfl, rfl⟩ := Prod.mk.inj hx
      exact ri_s0 h hb hB hg.1 h17 nm ps rs hi hsm hq
    · rw [if_pos rfl] at hx
      obtain ⟨T, q1, hT⟩ : ∃ T q1, oneP s.data.toList q = (T, q1) := ⟨_, _, rfl⟩
      have hT8 : T < 256 := by have := (one_bounds s q hqp).1; rw [hT] at this; exact this
      rw [hT] at hx
      dsimp only at hx
      obtain ⟨rfl, hQ⟩ := Prod.mk.inj hx
      rcases (show T = 125 ∨ T = 124 ∨ T = 64 ∨ T = 127 ∨ T = 126 ∨ (T ≠ 125 ∧ T ≠ 124 ∧ T ≠ 64 ∧ T ≠ 127 ∧ T ≠ 126) by omega) with h9 | h9 | h9 | h9 | h9 | h9
      · exact ri_s1_125 h hb hB hg.1 h17 nm ps rs hi hsm hq hT hT8 h9 hQ
      · exact ri_s1_124 h hb hB hg.1 h17 nm ps rs hi hsm hq hT hT8 h9 hQ
      · exact ri_s1_64 h hb hB hg.1 h17 nm ps rs hi hsm hq hT hT8 h9 hQ
      · exact ri_s1_127 h hb hB hg.1 h17 nm ps rs hi hsm hq hT hT8 h9 hQ
      · exact ri_s1_126 h hb hB hg.1 h17 nm ps rs hi hsm hq hT hT8 h9 hQ
      · exact ri_s1_o h hb hB hg.1 h17 nm ps rs hi hsm hq hT hT8 h9 hQ
    · rw [if_neg (by decide), if_pos (by decide)] at hx
      obtain ⟨rfl, rfl⟩ := Prod.mk.inj hx
      exact ri_s2 h hb hB hg.1 h17 nm ps rs hi hsm hq rfl
    · rw [if_neg (by decide), if_neg (by decide), if_pos rfl] at hx
      obtain ⟨rfl, rfl⟩ := Prod.mk.inj hx
      exact ri_s3 h hb hB hg.1 h17 nm ps rs hi hsm hq rfl rfl
    · rw [if_neg (by decide), if_pos (by decide)] at hx
      obtain ⟨rfl, rfl⟩ := Prod.mk.inj hx
      exact ri_s4 h hb hB hg.1 h17 nm ps rs hi hsm hq rfl
    · rw [if_neg (by decide), if_neg (by decide), if_neg (by decide), if_pos rfl] at hx
      obtain ⟨rfl, rfl⟩ := Prod.mk.inj hx
      exact ri_s5 h hb hB hg.1 h17 nm ps rs hi hsm hq rfl rfl
    · rw [if_neg (by decide), if_neg (by decide), if_neg (by decide), if_neg (by decide), if_pos rfl] at hx
      obtain ⟨rfl, rfl⟩ := Prod.mk.inj hx
      by_cases hT0 : (oneP s.data.toList q).1 = 0
      · exact ri_s6z h hb hB hg.1 h17 nm ps rs hi hsm hq rfl hT0 rfl
      · exact ri_s6n h hb hB hg.1 h17 nm ps rs hi hsm hq rfl hT0 rfl
    · rw [if_neg (by decide), if_neg (by decide), if_neg (by decide), if_neg (by decide), if_neg (by decide), if_pos rfl] at hx
      by_cases h66 : B = 66
      · rw [if_pos h66] at hx
        obtain ⟨rfl, rfl⟩ := Prod.mk.inj hx
        exact ri_s7a h hb hB hg.1 h17 nm ps rs hi hsm hq h66 rfl
      · rw [if_neg h66] at hx
        obtain ⟨rfl, rfl⟩ := Prod.mk.inj hx
        have hbd := readS_bounds (bits := 32) (l := s.data.toList) (r := q) hqp
        exact ri_s7b h hb hB hg.1 h17 nm ps rs hi hsm hq h66 rfl (by
          have h1 := hbd.1
          have h2 := hbd.2.1
          unfold s32P
          generalize (readP (ansS 32) s.data.toList q).1 = z at *
          unfold wrap64
          omega)
  · have hx2 : (X, Q) = (zeroX, failP (!kn) 2 (failP g 3 q)) := by
      rw [← hx]
      unfold instrP
      rw [hb]
      dsimp only
      rw [hg, hsm, if_neg he]
      rfl
    obtain ⟨rfl, rfl⟩ := Prod.mk.inj hx2
    cases hf : floatB (B : Int) with
    | true =>
      rw [hf, Bool.true_or] at hg
      subst hg
      exact ri_err_a h hb hB hf nm sh ps rs kn hi hsm rfl he
    | false =>
      rw [hf, Bool.false_or] at hg
      by_cases h17 : B = 17
      · obtain rfl : g = true := by rw [← hg, h17]; rfl
        exact ri_err_b h hb hB hf h17 nm sh ps rs kn hi hsm rfl he
      · obtain rfl : g = false := by rw [← hg]; exact beq_eq_false_iff_ne.2 h17
        exact ri_err_c h hb hB hf h17 nm sh ps rs kn hi hsm rfl he
end Go.Proofs.YteidhccnbfikcaaGreatDoor.Dec
