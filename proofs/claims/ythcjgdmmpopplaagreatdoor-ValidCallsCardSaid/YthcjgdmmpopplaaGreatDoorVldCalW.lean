/-
  The law of calls: the walk. No condition beyond what each theorem names.
-/
import Derived.Test.YthcjgdmmpopplaaGreatDoorVldCal
import Derived.Test.YthcjgdmmpopplaaGreatDoorVldCalL
import Derived.Test.YthcjgdmmpopplaaGreatDoorVldBool
namespace Go.Proofs.YthcjgdmmpopplaaGreatDoor.Vld
open Go.RowKit Go.Maps Go.Lib Go.Proofs.YthcjgdmmpopplaaGreatDoor.Op Go.Proofs.YthcjgdmmpopplaaGreatDoor.Mod Go.Proofs.YthcjgdmmpopplaaGreatDoor.Pg
set_option linter.unusedVariables false
theorem parL_snoc {bs : List Bool} {j : Nat} {b : Bool} (h : bs[j]? = some b) : parL (bs.take (j + 1)) = parL (bs.take j) ++ [if b then 126 else 127] := by
  unfold parL
  rw [List.take_add_one, h, List.map_append]
  rfl
theorem conI_snoc {bs : List Bool} {j : Nat} {b : Bool} (h : bs[j]? = some b) : (bs.take (j + 1)).map conI = (bs.take j).map conI ++ [conI b] := by
  rw [List.take_add_one, h, List.map_append]
  rfl
theorem con_wf (bs : List Bool) : ∀ x ∈ bs.map conI, (Lit.int .i64 x.op).wf = true := by
  intro x hx
  obtain ⟨b, _, rfl⟩ := List.mem_map.1 hx
  cases b <;> decide
theorem cal_wf (bs : List Bool) (a : Int) : ∀ x ∈ bs.map conI ++ [(⟨16, a, 0⟩ : Ins), ⟨11, 0, 0⟩], (Lit.int .i64 x.op).wf = true := by
  intro x hx
  rcases List.mem_append.1 hx with hx | hx
  · exact con_wf bs x hx
  · simp only [List.mem_cons, List.mem_nil_iff, or_false] at hx
    rcases hx with rfl | rfl
    · exact (show (Lit.int .i64 16).wf = true by decide)
    · decide
theorem box_otherC {w : World} {b g : Nat} {j : Nat} {v : Value} {o : Obj} (h : w.heap[g]? = some o) (hne : g ≠ b) : (w.setCell ⟨b, j, none⟩ v).heap[g]? = some o :=
  ((Keeps.setCell (F := fun j => j = b) w ⟨b, j, none⟩ v rfl).block g (Array.getElem?_eq_some_iff.1 h).1 hne).trans h
theorem four_newC (w : World) (o1 o2 o3 o4 : Obj) : ∀ V, ((((w.alloc o1).alloc o2).alloc o3).alloc o4) = V → V.heap[w.heap.size]? = some o1 ∧ V.heap[w.heap.size + 1]? = some o2 ∧ V.heap[w.heap.size + 1 + 1]? = some o3 ∧ V.heap[w.heap.size + 1 + 1 + 1]? = some o4 ∧ Below w.heap.size w V := by
  rintro V rfl
  have key : ∀ (V : World) (n : Nat) (o : Obj), V.heap.size = n → (V.alloc o).heap[n]? = some o := fun V n o h => by subst h; exact heap_alloc_new V o
  have old : ∀ (V : World) (n : Nat) (o q : Obj), V.heap[n]? = some q → (V.alloc o).heap[n]? = some q := fun V n o q h => (Below.heap_alloc V o n (Array.getElem?_eq_some_iff.1 h).1).trans h
  refine ⟨old _ _ _ _ (old _ _ _ _ (old _ _ _ _ (key _ _ _ rfl))), old _ _ _ _ (old _ _ _ _ (key _ _ _ (by simp))), old _ _ _ _ (key _ _ _ (by simp)), key _ _ _ (by simp), ?_⟩
  exact ((((Below.refl _ _).alloc (Nat.le_refl _) o1).alloc (by simp) o2).alloc (by simp; omega) o3).alloc (by simp; omega) o4
theorem calM_short {S : ByteArray} {c : List Ins} (h : c.length ≤ 100000) : ∀ x ∈ (calM S c).funcs, x.code.length ≤ 1000000 := by
  intro x hx
  rcases List.mem_cons.1 hx with rfl | hx
  · show (c.map toL).length ≤ _
    rw [List.length_map]
    omega
  · rw [List.mem_singleton.1 hx]
    exact (show 2 ≤ 1000000 by decide)
theorem two_cells {W : World} {b a : Nat} (h : W.heap[b]? = some (.cells #[.int .i64 16, .int .i64 a, .int .i64 0, .slice none 0 0, .int .i64 11, .int .i64 0, .int .i64 0, .slice none 0 0] 38 (0, 0))) : ∀ j u, ([(⟨16, a, 0⟩ : Ins), ⟨11, 0, 0⟩].map Ins.cells).flatten[j]? = some u → W.cell? ((⟨b, 0, none⟩ : Addr).add j) = some u := by
  intro j u hu
  rw [Addr.add_lit, Nat.zero_add]
  refine box_at h j u ?_
  rw [← Array.getElem?_toList]
  exact hu
theorem off_len {W : World} {v v' : Value} {l : List InsL} (h : CodeAt W v l) (e : v = v') : CodeAt W v' l := e ▸ h
theorem OffAt.first {W : World} {B g off n cap : Nat} {x : Ins} {c : List Ins} (h : OffAt W B (.slice (some ⟨g, off, none⟩) n cap) (x :: c)) : W.cell? ⟨g, off, none⟩ = some (.int .i64 x.op) := by
  obtain ⟨g', off', cap', cur, h1, hb, hg, h2, h3, h4, h5⟩ := h
  simp only [Value.slice.injEq, Option.some.injEq, Addr.mk.injEq, and_true] at h1
  obtain ⟨⟨rfl, rfl⟩, _, rfl⟩ := h1
  exact off_cell hg h5 (j := 0) rfl
theorem OffAt.free {W : World} {B g off n cap : Nat} {c : List Ins} (h : OffAt W B (.slice (some ⟨g, off, none⟩) n cap) c) : W.frozen? ⟨g, off, none⟩ = false := by
  obtain ⟨g', off', cap', cur, h1, hb, hg, h2, h3, h4, h5⟩ := h
  simp only [Value.slice.injEq, Option.some.injEq, Addr.mk.injEq, and_true] at h1
  obtain ⟨⟨rfl, rfl⟩, _, rfl⟩ := h1
  exact frozen_of_row W g off _ _ hg
theorem OffAt.lt_size {W : World} {B g off n cap : Nat} {c : List Ins} (h : OffAt W B (.slice (some ⟨g, off, none⟩) n cap) c) : B ≤ g ∧ g < W.heap.size := by
  obtain ⟨g', off', cap', cur, h1, hb, hg, h2, h3, h4, h5⟩ := h
  simp only [Value.slice.injEq, Option.some.injEq, Addr.mk.injEq, and_true] at h1
  obtain ⟨⟨rfl, rfl⟩, _, rfl⟩ := h1
  exact ⟨hb, (Array.getElem?_eq_some_iff.1 hg).1⟩
set_option maxRecDepth 100000 in
set_option maxHeartbeats 8000000 in
theorem calls_walk (bs : List Bool) (how : Nat) (hh8 : how < 256) (w : World) (hE : MEnv w) (v : Value) (hv : BoolsAt w v bs) : Calls Tryz.prog 8 #[v, .int .u8 (how : Int)] w fun e w' => e = .returned (.bool true) ∧ Below w.heap.size w w' := by
  obtain ⟨la, lc, rfl, hle, hcell⟩ := hv
  have HE := Lib.hid hE
  have HX := Lib.hid (examples07 w hE)
  have HV := Lib.hid hcell
  clear hE hcell
  obtain ⟨N, hN⟩ : ∃ N, min bs.length 8 = N := ⟨_, rfl⟩
  have hN1 : N ≤ bs.length := by omega
  have hN2 : N ≤ 8 := by omega
  have HN := Lib.hid hN
  clear hN
  go_enter Tryz.func8, Tryz.ntmps8
  go_wp2_with fail
  refine HX.out.mono ?_
  rintro e w1 ⟨rfl, c1⟩
  have C1 := Lib.hid c1
  clear c1
  go_wp2_with fail
  go_loopw [6, 7, 8] (fun p c i wr => ∃ j : Nat, j ≤ N ∧ i = .int .i64 j ∧ (∃ S : ByteArray, p = .string S ∧ S.data.toList = parL (bs.take j)) ∧ (∃ a cap, c = .slice a j cap ∧ Cod wr w1.heap.size (.slice a j cap) ((bs.take j).map conI)) ∧ Below w1.heap.size w1 wr) (fun _ _ i _ => 40 - (Go.RowKit.intOf i).toNat)
  case atStart => exact ⟨0, Nat.zero_le _, rfl, ⟨_, rfl, rfl⟩, ⟨none, 0, rfl, Cod.nil _ _⟩, Below.refl _ _⟩
  case round =>
    obtain ⟨j, hj, rfl, ⟨S, rfl, hS⟩, ⟨ca, cc, rfl, hco⟩, hB⟩ := hrel
    obtain ⟨D, hD⟩ : ∃ D, (bs.take j).map conI = D := ⟨_, rfl⟩
    have HDL := Lib.hid (show D.length = j by rw [← hD, List.length_map, List.length_take]; omega)
    rw [hD] at hco
    have HD := Lib.hid hD
    clear hD
    have H0 := Lib.hid hco
    have B0 := Lib.hid hB
    have HS := Lib.hid hS
    have hSz : S.size = j := by
      have h := congrArg List.length hS
      rw [show S.data.toList.length = S.size from rfl] at h
      rw [h]
      unfold parL
      rw [List.length_map, List.length_take]
      omega
    clear hco hB hS
    by_cases hlt : j < N
    · have e1 : decide (j < bs.length) = true := decide_eq_true (by omega)
      have e2 : decide (j < 8) = true := decide_eq_true (by omega)
      have e2' : decide ((j : Int) < 8) = true := decide_eq_true (by omega)
      have hjb : bs[j]? = some bs[j] := List.getElem?_eq_getElem (by omega)
      obtain ⟨b, hb⟩ : ∃ b, bs[j] = b := ⟨_, rfl⟩
      rw [hb] at hjb
      obtain ⟨g, off, rfl, hq⟩ := HV.out j b hjb
      have HJB := Lib.hid hjb
      have q0 : wr.cell? ⟨g, off + j, none⟩ = some (.bool b) := cell_later B0.out (cell_later C1.out hq)
      clear hb hjb hq
      have hcat : ¬ 9223372036854775807 < S.size + 1 := by omega
      have q1 : (wr.alloc (.cells #[.int .i64 65, .int .i64 0, .int .i64 0, .slice none 0 0] 38)).cell? ⟨g, off + j, none⟩ = some (.bool b) := cell_later (below1 wr _) q0
      cases b
      · go_wp2_with (at_builtin; refine wpList_ins rfl _ _ rfl rfl (H0.out.later (below1 wr (.cells #[.int .i64 65, .int .i64 0, .int .i64 0, .slice none 0 0] 38))) 65 0 0 (by rw [show (wr.alloc (.cells #[.int .i64 65, .int .i64 0, .int .i64 0, .slice none 0 0] 38)).heap.size = wr.heap.size + 1 by simp]; rfl) (show D.length < 1000000000 by rw [HDL.out]; omega) (Nat.le_trans B0.out.size (below1 wr _).size) ?_)
        intro a1 p1 w11 o1 k1 _
        have H1 := Lib.hid (show Cod w11 w1.heap.size (.slice a1 (j + 1) p1) ((bs.take (j + 1)).map conI) by rw [conI_snoc HJB.out, HD.out]; exact cod_len o1 (by rw [HDL.out]))
        have B1 := Lib.hid ((B0.out.alloc B0.out.size (.cells #[.int .i64 65, .int .i64 0, .int .i64 0, .slice none 0 0] 38)).trans (own_below (H0.out.later (below1 wr _)) k1 (Nat.le_trans B0.out.size (below1 wr _).size)))
        clear o1 k1 q0 q1
        go_wp2_with fail
        go_roundw
        case rel => exact ⟨j + 1, by omega, by go_num, ⟨_, rfl, by rw [parL_snoc HJB.out, ← HS.out]; simp [ByteArray.data_append]⟩, ⟨a1, p1, by rw [HDL.out], H1.out⟩, B1.out⟩
        case measure => simp [Go.RowKit.intOf]; omega
      · go_wp2_with (at_builtin; refine wpList_ins rfl _ _ rfl rfl (H0.out.later (below1 wr (.cells #[.int .i64 66, .int .i64 0, .int .i64 0, .slice none 0 0] 38))) 66 0 0 (by rw [show (wr.alloc (.cells #[.int .i64 66, .int .i64 0, .int .i64 0, .slice none 0 0] 38)).heap.size = wr.heap.size + 1 by simp]; rfl) (show D.length < 1000000000 by rw [HDL.out]; omega) (Nat.le_trans B0.out.size (below1 wr _).size) ?_)
        intro a1 p1 w11 o1 k1 _
        have H1 := Lib.hid (show Cod w11 w1.heap.size (.slice a1 (j + 1) p1) ((bs.take (j + 1)).map conI) by rw [conI_snoc HJB.out, HD.out]; exact cod_len o1 (by rw [HDL.out]))
        have B1 := Lib.hid ((B0.out.alloc B0.out.size (.cells #[.int .i64 66, .int .i64 0, .int .i64 0, .slice none 0 0] 38)).trans (own_below (H0.out.later (below1 wr _)) k1 (Nat.le_trans B0.out.size (below1 wr _).size)))
        clear o1 k1 q0 q1
        go_wp2_with fail
        go_roundw
        case rel => exact ⟨j + 1, by omega, by go_num, ⟨_, rfl, by rw [parL_snoc HJB.out, ← HS.out]; simp [ByteArray.data_append]⟩, ⟨a1, p1, by rw [HDL.out], H1.out⟩, B1.out⟩
        case measure => simp [Go.RowKit.intOf]; omega
    · obtain rfl : j = N := by omega
      obtain ⟨w2, rfl⟩ : ∃ w2, w2 = wr := ⟨_, rfl⟩
      have hex : decide (j < bs.length) = false ∨ (decide (j < bs.length) = true ∧ decide (j < 8) = false ∧ decide ((j : Int) < 8) = false) := by
        have := HN.out
        rcases (show j = bs.length ∨ (j < bs.length ∧ j = 8) by omega) with h9 | ⟨h9, h8⟩
        · exact .inl (decide_eq_false (by omega))
        · exact .inr ⟨decide_eq_true h9, decide_eq_false (by omega), decide_eq_false (by omega)⟩
      rcases hex with d1 | ⟨d1, d2, d3⟩
      all_goals
        go_upto_region 16 with fail
        have HSz := Lib.hid hSz
        have HSe := Lib.hid (show S = ⟨(parL (bs.take j)).toArray⟩ by rw [← HS.out])
        have HTl := Lib.hid (show (bs.take j).length = j by rw [List.length_take]; omega)
        have HTk := Lib.hid (show (bs.take j).length ≤ 8 by rw [HTl.out]; omega)
        have HH := Lib.hid (show how % 4 = 0 ∨ how % 4 = 1 ∨ how % 4 = 2 ∨ how % 4 = 3 by omega)
        have HJ := Lib.hid (show j = 0 ∨ 1 ≤ j by omega)
        clear hSz
        rcases HH.out with hk | hk | hk | hk
        · have t1 : ((how : Int) % 4 == 1) = false := by simp; omega
          have t2 : ((how : Int) % 4 == 2) = false := by simp; omega
          have t3 : ((how : Int) % 4 == 3) = false := by simp; omega
          have HCe := Lib.hid (show calC (bs.take j) 0 = D ++ [⟨16, 1, 0⟩, ⟨11, 0, 0⟩] by rw [← HD.out]; rfl)
          have HCl := Lib.hid (show (calC (bs.take j) 0).length = j + 2 by rw [HCe.out, List.length_append, HDL.out]; rfl)
          have hsz : (w2.alloc (.cells #[.int .i64 16, .int .i64 1, .int .i64 0, .slice none 0 0] 38)).heap.size = w2.heap.size + 1 := by simp
          go_wp2_with (at_builtin; refine wpList_whole rfl _ _ rfl rfl (H0.out.later (below2 w2 (.cells #[.int .i64 16, .int .i64 1, .int .i64 0, .slice none 0 0] 38) (.cells #[.int .i64 16, .int .i64 1, .int .i64 0, .slice none 0 0, .int .i64 11, .int .i64 0, .int .i64 0, .slice none 0 0] 38))) (by rw [← hsz]; rfl) (cod_block (heap_alloc_new (w2.alloc (.cells #[.int .i64 16, .int .i64 1, .int .i64 0, .slice none 0 0] 38)) (.cells #[.int .i64 16, .int .i64 1, .int .i64 0, .slice none 0 0, .int .i64 11, .int .i64 0, .int .i64 0, .slice none 0 0] 38)) [⟨16, 1, 0⟩, ⟨11, 0, 0⟩] 2 rfl rfl (by decide)) (show D.length + 2 ≤ 1000000000 by rw [HDL.out]; omega) (Nat.le_trans B0.out.size (below2 w2 (.cells #[.int .i64 16, .int .i64 1, .int .i64 0, .slice none 0 0] 38) (.cells #[.int .i64 16, .int .i64 1, .int .i64 0, .slice none 0 0, .int .i64 11, .int .i64 0, .int .i64 0, .slice none 0 0] 38)).size) ?_)
          intro a1 p1 w3 o1 k1 _
          have E1 := Lib.hid (show CodeAt w3 (.slice a1 (D.length + 2) p1) ((calC (bs.take j) 0).map toL) by rw [HCe.out]; exact Cod.at o1 (by rw [List.length_append, HDL.out]; show j + 2 ≤ _; omega) (by rw [← HD.out]; exact cal_wf _ 1))
          have B1 := Lib.hid (B0.out.trans ((below2 w2 (.cells #[.int .i64 16, .int .i64 1, .int .i64 0, .slice none 0 0] 38) (.cells #[.int .i64 16, .int .i64 1, .int .i64 0, .slice none 0 0, .int .i64 11, .int .i64 0, .int .i64 0, .slice none 0 0] 38)).mono B0.out.size |>.trans (own_below (H0.out.later (below2 w2 (.cells #[.int .i64 16, .int .i64 1, .int .i64 0, .slice none 0 0] 38) (.cells #[.int .i64 16, .int .i64 1, .int .i64 0, .slice none 0 0, .int .i64 11, .int .i64 0, .int .i64 0, .slice none 0 0] 38))) k1 (Nat.le_trans B0.out.size (below2 w2 (.cells #[.int .i64 16, .int .i64 1, .int .i64 0, .slice none 0 0] 38) (.cells #[.int .i64 16, .int .i64 1, .int .i64 0, .slice none 0 0, .int .i64 11, .int .i64 0, .int .i64 0, .slice none 0 0] 38)).size))))
          clear o1 k1 hsz
          have HL := Lib.hid (show moduleE (calM S (calC (bs.take j) 0)) = 0 by rw [HSe.out, law_call (bs.take j) HTk.out 0 (by decide)]; rfl)
          have HLen := Lib.hid (show (calC (bs.take j) 0).length ≤ 100000 by rw [HCl.out]; omega)
          have HLs := Lib.hid (show ∀ x ∈ (calM S (calC (bs.take j) 0)).funcs, x.code.length ≤ 1000000 from calM_short HLen.out)
          go_wp2_with fail
          obtain ⟨y1, y2, y3, y4, by4⟩ := four_newC w3 _ _ _ _ _ rfl
          refine (module_any _ _ _ _ _ _ _ (calM S (calC (bs.take j) 0)) _ (calM_at (bt := w3.heap.size) (bf := w3.heap.size + 1 + 1) (by rw [HSz.out]; omega) y1 y3 (ListAt.later lasts_ins E1.out by4) HLen.out ((cod_block y2 [⟨66, 0, 0⟩, ⟨11, 0, 0⟩] 2 rfl rfl (by decide)).at (show 2 ≤ 1000000000 by decide) (by decide))) (HE.out.later (C1.out.trans ((B1.out.trans (by4.mono B1.out.size)).mono C1.out.size))) HLs.out).mono ?_
          rw [HL.out]
          rintro e w5 ⟨rfl, c5⟩
          have G5 := Lib.hid (C1.out.trans ((B1.out.trans ((by4.trans (c5.mono by4.size)).mono B1.out.size)).mono C1.out.size))
          clear c5 y1 y2 y3 y4 by4
          go_wp2_with fail
          go_ret
          exact ⟨rfl, G5.out⟩
        · have t1 : ((how : Int) % 4 == 1) = true := by simp; omega
          have HCe := Lib.hid (show calC (bs.take j) 1 = D ++ [⟨16, 2, 0⟩, ⟨11, 0, 0⟩] by rw [← HD.out]; rfl)
          have HCl := Lib.hid (show (calC (bs.take j) 1).length = j + 2 by rw [HCe.out, List.length_append, HDL.out]; rfl)
          have hsz : (w2.alloc (.cells #[.int .i64 16, .int .i64 2, .int .i64 0, .slice none 0 0] 38)).heap.size = w2.heap.size + 1 := by simp
          go_wp2_with (at_builtin; refine wpList_whole rfl _ _ rfl rfl (H0.out.later (below2 w2 (.cells #[.int .i64 16, .int .i64 2, .int .i64 0, .slice none 0 0] 38) (.cells #[.int .i64 16, .int .i64 2, .int .i64 0, .slice none 0 0, .int .i64 11, .int .i64 0, .int .i64 0, .slice none 0 0] 38))) (by rw [← hsz]; rfl) (cod_block (heap_alloc_new (w2.alloc (.cells #[.int .i64 16, .int .i64 2, .int .i64 0, .slice none 0 0] 38)) (.cells #[.int .i64 16, .int .i64 2, .int .i64 0, .slice none 0 0, .int .i64 11, .int .i64 0, .int .i64 0, .slice none 0 0] 38)) [⟨16, 2, 0⟩, ⟨11, 0, 0⟩] 2 rfl rfl (by decide)) (show D.length + 2 ≤ 1000000000 by rw [HDL.out]; omega) (Nat.le_trans B0.out.size (below2 w2 (.cells #[.int .i64 16, .int .i64 2, .int .i64 0, .slice none 0 0] 38) (.cells #[.int .i64 16, .int .i64 2, .int .i64 0, .slice none 0 0, .int .i64 11, .int .i64 0, .int .i64 0, .slice none 0 0] 38)).size) ?_)
          intro a1 p1 w3 o1 k1 _
          have E1 := Lib.hid (show CodeAt w3 (.slice a1 (D.length + 2) p1) ((calC (bs.take j) 1).map toL) by rw [HCe.out]; exact Cod.at o1 (by rw [List.length_append, HDL.out]; show j + 2 ≤ _; omega) (by rw [← HD.out]; exact cal_wf _ 2))
          have B1 := Lib.hid (B0.out.trans ((below2 w2 (.cells #[.int .i64 16, .int .i64 2, .int .i64 0, .slice none 0 0] 38) (.cells #[.int .i64 16, .int .i64 2, .int .i64 0, .slice none 0 0, .int .i64 11, .int .i64 0, .int .i64 0, .slice none 0 0] 38)).mono B0.out.size |>.trans (own_below (H0.out.later (below2 w2 (.cells #[.int .i64 16, .int .i64 2, .int .i64 0, .slice none 0 0] 38) (.cells #[.int .i64 16, .int .i64 2, .int .i64 0, .slice none 0 0, .int .i64 11, .int .i64 0, .int .i64 0, .slice none 0 0] 38))) k1 (Nat.le_trans B0.out.size (below2 w2 (.cells #[.int .i64 16, .int .i64 2, .int .i64 0, .slice none 0 0] 38) (.cells #[.int .i64 16, .int .i64 2, .int .i64 0, .slice none 0 0, .int .i64 11, .int .i64 0, .int .i64 0, .slice none 0 0] 38)).size))))
          clear o1 k1 hsz
          have HL := Lib.hid (show moduleE (calM S (calC (bs.take j) 1)) = 4 by rw [HSe.out, law_call (bs.take j) HTk.out 1 (by decide)]; rfl)
          have HLen := Lib.hid (show (calC (bs.take j) 1).length ≤ 100000 by rw [HCl.out]; omega)
          have HLs := Lib.hid (show ∀ x ∈ (calM S (calC (bs.take j) 1)).funcs, x.code.length ≤ 1000000 from calM_short HLen.out)
          go_wp2_with fail
          obtain ⟨y1, y2, y3, y4, by4⟩ := four_newC w3 _ _ _ _ _ rfl
          refine (module_any _ _ _ _ _ _ _ (calM S (calC (bs.take j) 1)) _ (calM_at (bt := w3.heap.size) (bf := w3.heap.size + 1 + 1) (by rw [HSz.out]; omega) y1 y3 (ListAt.later lasts_ins E1.out by4) HLen.out ((cod_block y2 [⟨66, 0, 0⟩, ⟨11, 0, 0⟩] 2 rfl rfl (by decide)).at (show 2 ≤ 1000000000 by decide) (by decide))) (HE.out.later (C1.out.trans ((B1.out.trans (by4.mono B1.out.size)).mono C1.out.size))) HLs.out).mono ?_
          rw [HL.out]
          rintro e w5 ⟨rfl, c5⟩
          have G5 := Lib.hid (C1.out.trans ((B1.out.trans ((by4.trans (c5.mono by4.size)).mono B1.out.size)).mono C1.out.size))
          clear c5 y1 y2 y3 y4 by4
          go_wp2_with fail
          go_ret
          exact ⟨rfl, G5.out⟩
        · have t1 : ((how : Int) % 4 == 1) = false := by simp; omega
          have t2 : ((how : Int) % 4 == 2) = true := by simp; omega
          rcases HJ.out with hj0 | hj0
          · subst hj0
            have HCe := Lib.hid (show calC (bs.take 0) 2 = D ++ [⟨16, 1, 0⟩, ⟨11, 0, 0⟩] by rw [← HD.out, List.take_zero]; rfl)
            have HCl := Lib.hid (show (calC (bs.take 0) 2).length = 0 + 2 by rw [HCe.out, List.length_append, HDL.out]; rfl)
            have HW := Lib.hid (show calW (bs.take 0) 2 = 0 by rw [List.take_zero]; rfl)
            have hsz : (w2.alloc (.cells #[.int .i64 16, .int .i64 1, .int .i64 0, .slice none 0 0] 38)).heap.size = w2.heap.size + 1 := by simp
            go_wp2_with (at_builtin; refine wpList_whole rfl _ _ rfl rfl (H0.out.later (below2 w2 (.cells #[.int .i64 16, .int .i64 1, .int .i64 0, .slice none 0 0] 38) (.cells #[.int .i64 16, .int .i64 1, .int .i64 0, .slice none 0 0, .int .i64 11, .int .i64 0, .int .i64 0, .slice none 0 0] 38))) (by rw [← hsz]; rfl) (cod_block (heap_alloc_new (w2.alloc (.cells #[.int .i64 16, .int .i64 1, .int .i64 0, .slice none 0 0] 38)) (.cells #[.int .i64 16, .int .i64 1, .int .i64 0, .slice none 0 0, .int .i64 11, .int .i64 0, .int .i64 0, .slice none 0 0] 38)) [⟨16, 1, 0⟩, ⟨11, 0, 0⟩] 2 rfl rfl (by decide)) (show D.length + 2 ≤ 1000000000 by rw [HDL.out]; omega) (Nat.le_trans B0.out.size (below2 w2 (.cells #[.int .i64 16, .int .i64 1, .int .i64 0, .slice none 0 0] 38) (.cells #[.int .i64 16, .int .i64 1, .int .i64 0, .slice none 0 0, .int .i64 11, .int .i64 0, .int .i64 0, .slice none 0 0] 38)).size) ?_)
            intro a1 p1 w3 o1 k1 _
            have E1 := Lib.hid (show CodeAt w3 (.slice a1 (D.length + 2) p1) ((calC (bs.take 0) 2).map toL) by rw [HCe.out]; exact Cod.at o1 (by rw [List.length_append, HDL.out]; show 0 + 2 ≤ _; omega) (by rw [← HD.out]; exact cal_wf _ 1))
            have B1 := Lib.hid (B0.out.trans ((below2 w2 (.cells #[.int .i64 16, .int .i64 1, .int .i64 0, .slice none 0 0] 38) (.cells #[.int .i64 16, .int .i64 1, .int .i64 0, .slice none 0 0, .int .i64 11, .int .i64 0, .int .i64 0, .slice none 0 0] 38)).mono B0.out.size |>.trans (own_below (H0.out.later (below2 w2 (.cells #[.int .i64 16, .int .i64 1, .int .i64 0, .slice none 0 0] 38) (.cells #[.int .i64 16, .int .i64 1, .int .i64 0, .slice none 0 0, .int .i64 11, .int .i64 0, .int .i64 0, .slice none 0 0] 38))) k1 (Nat.le_trans B0.out.size (below2 w2 (.cells #[.int .i64 16, .int .i64 1, .int .i64 0, .slice none 0 0] 38) (.cells #[.int .i64 16, .int .i64 1, .int .i64 0, .slice none 0 0, .int .i64 11, .int .i64 0, .int .i64 0, .slice none 0 0] 38)).size))))
            clear o1 k1 hsz
            have HL := Lib.hid (show moduleE (calM S (calC (bs.take 0) 2)) = 0 by rw [HSe.out, law_call (bs.take 0) HTk.out 2 (by decide)]; exact HW.out)
            have HLen := Lib.hid (show (calC (bs.take 0) 2).length ≤ 100000 by rw [HCl.out]; omega)
            have HLs := Lib.hid (show ∀ x ∈ (calM S (calC (bs.take 0) 2)).funcs, x.code.length ≤ 1000000 from calM_short HLen.out)
            go_wp2_with fail
            obtain ⟨y1, y2, y3, y4, by4⟩ := four_newC w3 _ _ _ _ _ rfl
            refine (module_any _ _ _ _ _ _ _ (calM S (calC (bs.take 0) 2)) _ (calM_at (bt := w3.heap.size) (bf := w3.heap.size + 1 + 1) (by rw [HSz.out]; omega) y1 y3 (ListAt.later lasts_ins E1.out by4) HLen.out ((cod_block y2 [⟨66, 0, 0⟩, ⟨11, 0, 0⟩] 2 rfl rfl (by decide)).at (show 2 ≤ 1000000000 by decide) (by decide))) (HE.out.later (C1.out.trans ((B1.out.trans (by4.mono B1.out.size)).mono C1.out.size))) HLs.out).mono ?_
            rw [HL.out]
            rintro e w5 ⟨rfl, c5⟩
            have G5 := Lib.hid (C1.out.trans ((B1.out.trans ((by4.trans (c5.mono by4.size)).mono B1.out.size)).mono C1.out.size))
            clear c5 y1 y2 y3 y4 by4
            go_wp2_with fail
            go_ret
            exact ⟨rfl, G5.out⟩
          · have dj1 : decide ((0 : Int) < (j : Int)) = true := decide_eq_true (by omega)
            have dj2 : decide (0 < j) = true := decide_eq_true (by omega)
            obtain ⟨b0, bt, hbt⟩ : ∃ b0 bt, bs.take j = b0 :: bt := by cases h9 : bs.take j with | nil => (have h8 := congrArg List.length h9; rw [HTl.out] at h8; simp at h8; omega) | cons b0 bt => exact ⟨b0, bt, rfl⟩
            have hDx : D = conI b0 :: bt.map conI := by rw [← HD.out, hbt]; rfl
            have hbl : bt.length + 1 = j := by have h9 := HTl.out; rw [hbt] at h9; exact h9
            have o0 := OffAt.of_cod H0.out (by rw [hDx]; exact List.cons_ne_nil _ _)
            rw [hDx] at o0
            obtain ⟨g, off, rfl⟩ : ∃ g off, ca = some ⟨g, off, none⟩ := by obtain ⟨g, off, cap, cur, h1, _⟩ := o0; simp only [Value.slice.injEq] at h1; exact ⟨g, off, h1.1⟩
            have hBt := Lib.hid hbt
            have HBl := Lib.hid hbl
            have O0 := Lib.hid o0
            have o1 := OffAt.cut (show OffAt w2 w1.heap.size (.slice (some ⟨g, off, none⟩) ((bt.map conI).length + 1) cc) (conI b0 :: bt.map conI) by rw [List.length_map, HBl.out]; exact o0)
            have hcf := cut_first g off j cc (by omega)
            rw [List.length_map] at o1
            obtain ⟨off2, ho2⟩ : ∃ o, (if cc = 1 then off else off + 4) = o := ⟨_, rfl⟩
            rw [ho2] at o1 hcf
            have hj1 : j - 1 = bt.length := by omega
            rw [hj1] at hcf
            have O1 := Lib.hid o1
            clear o0 o1 ho2 hbt hDx hbl hj1
            have hsz : (w2.alloc (.cells #[.int .i64 16, .int .i64 1, .int .i64 0, .slice none 0 0] 38)).heap.size = w2.heap.size + 1 := by simp
            go_wp2_with (at_builtin; refine wpList_off rfl _ _ rfl rfl (O1.out.later (below2 w2 (.cells #[.int .i64 16, .int .i64 1, .int .i64 0, .slice none 0 0] 38) (.cells #[.int .i64 16, .int .i64 1, .int .i64 0, .slice none 0 0, .int .i64 11, .int .i64 0, .int .i64 0, .slice none 0 0] 38))) [⟨16, 1, 0⟩, ⟨11, 0, 0⟩] (A := ⟨w2.heap.size + 1, 0, none⟩) (m := 2) (cm := 2) (by rw [← hsz]; rfl) rfl (two_cells (by rw [← hsz]; exact heap_alloc_new (w2.alloc (.cells #[.int .i64 16, .int .i64 1, .int .i64 0, .slice none 0 0] 38)) (.cells #[.int .i64 16, .int .i64 1, .int .i64 0, .slice none 0 0, .int .i64 11, .int .i64 0, .int .i64 0, .slice none 0 0] 38))) (show (bt.map conI).length + 2 ≤ 1000 by rw [List.length_map]; have := HBl.out; omega) (Nat.le_trans B0.out.size (below2 w2 (.cells #[.int .i64 16, .int .i64 1, .int .i64 0, .slice none 0 0] 38) (.cells #[.int .i64 16, .int .i64 1, .int .i64 0, .slice none 0 0, .int .i64 11, .int .i64 0, .int .i64 0, .slice none 0 0] 38)).size) ?_)
            intro a1 p1 w3 o1 k1
            have B1 := Lib.hid (B0.out.trans ((below2 w2 (.cells #[.int .i64 16, .int .i64 1, .int .i64 0, .slice none 0 0] 38) (.cells #[.int .i64 16, .int .i64 1, .int .i64 0, .slice none 0 0, .int .i64 11, .int .i64 0, .int .i64 0, .slice none 0 0] 38)).mono B0.out.size |>.trans k1))
            have E1 := Lib.hid (show CodeAt w3 (.slice a1 (bt.length + 2) p1) ((calC (bs.take j) 2).map toL) by rw [hBt.out]; exact off_len (OffAt.code o1 (by show (bt.map conI ++ [(⟨16, 1, 0⟩ : Ins), ⟨11, 0, 0⟩]).length ≤ _; rw [List.length_append, List.length_map]; show bt.length + 2 ≤ _; have := HBl.out; omega) (cal_wf bt 1)) rfl)
            clear o1 k1 hsz hcf
            have HCl := Lib.hid (show (calC (bs.take j) 2).length = j + 1 by rw [hBt.out]; show (bt.map conI ++ _).length = _; rw [List.length_append, List.length_map, ← HBl.out]; rfl)
            have HW := Lib.hid (show calW (bs.take j) 2 = 4 by rw [hBt.out]; rfl)
            have HL := Lib.hid (show moduleE (calM S (calC (bs.take j) 2)) = 4 by rw [HSe.out, law_call (bs.take j) HTk.out 2 (by decide)]; exact HW.out)
            have HLen := Lib.hid (show (calC (bs.take j) 2).length ≤ 100000 by rw [HCl.out]; omega)
            have HLs := Lib.hid (show ∀ x ∈ (calM S (calC (bs.take j) 2)).funcs, x.code.length ≤ 1000000 from calM_short HLen.out)
            go_wp2_with fail
            obtain ⟨y1, y2, y3, y4, by4⟩ := four_newC w3 _ _ _ _ _ rfl
            refine (module_any _ _ _ _ _ _ _ (calM S (calC (bs.take j) 2)) _ (calM_at (bt := w3.heap.size) (bf := w3.heap.size + 1 + 1) (by rw [HSz.out]; omega) y1 y3 (ListAt.later lasts_ins E1.out by4) HLen.out ((cod_block y2 [⟨66, 0, 0⟩, ⟨11, 0, 0⟩] 2 rfl rfl (by decide)).at (show 2 ≤ 1000000000 by decide) (by decide))) (HE.out.later (C1.out.trans ((B1.out.trans (by4.mono B1.out.size)).mono C1.out.size))) HLs.out).mono ?_
            rw [HL.out]
            rintro e w5 ⟨rfl, c5⟩
            have G5 := Lib.hid (C1.out.trans ((B1.out.trans ((by4.trans (c5.mono by4.size)).mono B1.out.size)).mono C1.out.size))
            clear c5 y1 y2 y3 y4 by4
            go_wp2_with fail
            go_ret
            exact ⟨rfl, G5.out⟩
        · have t1 : ((how : Int) % 4 == 1) = false := by simp; omega
          have t2 : ((how : Int) % 4 == 2) = false := by simp; omega
          have t3 : ((how : Int) % 4 == 3) = true := by simp; omega
          rcases HJ.out with hj0 | hj0
          · subst hj0
            have HCe := Lib.hid (show calC (bs.take 0) 3 = D ++ [⟨16, 1, 0⟩, ⟨11, 0, 0⟩] by rw [← HD.out, List.take_zero]; rfl)
            have HCl := Lib.hid (show (calC (bs.take 0) 3).length = 0 + 2 by rw [HCe.out, List.length_append, HDL.out]; rfl)
            have HW := Lib.hid (show calW (bs.take 0) 3 = 0 by rw [List.take_zero]; rfl)
            have hsz : (w2.alloc (.cells #[.int .i64 16, .int .i64 1, .int .i64 0, .slice none 0 0] 38)).heap.size = w2.heap.size + 1 := by simp
            go_wp2_with (at_builtin; refine wpList_whole rfl _ _ rfl rfl (H0.out.later (below2 w2 (.cells #[.int .i64 16, .int .i64 1, .int .i64 0, .slice none 0 0] 38) (.cells #[.int .i64 16, .int .i64 1, .int .i64 0, .slice none 0 0, .int .i64 11, .int .i64 0, .int .i64 0, .slice none 0 0] 38))) (by rw [← hsz]; rfl) (cod_block (heap_alloc_new (w2.alloc (.cells #[.int .i64 16, .int .i64 1, .int .i64 0, .slice none 0 0] 38)) (.cells #[.int .i64 16, .int .i64 1, .int .i64 0, .slice none 0 0, .int .i64 11, .int .i64 0, .int .i64 0, .slice none 0 0] 38)) [⟨16, 1, 0⟩, ⟨11, 0, 0⟩] 2 rfl rfl (by decide)) (show D.length + 2 ≤ 1000000000 by rw [HDL.out]; omega) (Nat.le_trans B0.out.size (below2 w2 (.cells #[.int .i64 16, .int .i64 1, .int .i64 0, .slice none 0 0] 38) (.cells #[.int .i64 16, .int .i64 1, .int .i64 0, .slice none 0 0, .int .i64 11, .int .i64 0, .int .i64 0, .slice none 0 0] 38)).size) ?_)
            intro a1 p1 w3 o1 k1 _
            have E1 := Lib.hid (show CodeAt w3 (.slice a1 (D.length + 2) p1) ((calC (bs.take 0) 3).map toL) by rw [HCe.out]; exact Cod.at o1 (by rw [List.length_append, HDL.out]; show 0 + 2 ≤ _; omega) (by rw [← HD.out]; exact cal_wf _ 1))
            have B1 := Lib.hid (B0.out.trans ((below2 w2 (.cells #[.int .i64 16, .int .i64 1, .int .i64 0, .slice none 0 0] 38) (.cells #[.int .i64 16, .int .i64 1, .int .i64 0, .slice none 0 0, .int .i64 11, .int .i64 0, .int .i64 0, .slice none 0 0] 38)).mono B0.out.size |>.trans (own_below (H0.out.later (below2 w2 (.cells #[.int .i64 16, .int .i64 1, .int .i64 0, .slice none 0 0] 38) (.cells #[.int .i64 16, .int .i64 1, .int .i64 0, .slice none 0 0, .int .i64 11, .int .i64 0, .int .i64 0, .slice none 0 0] 38))) k1 (Nat.le_trans B0.out.size (below2 w2 (.cells #[.int .i64 16, .int .i64 1, .int .i64 0, .slice none 0 0] 38) (.cells #[.int .i64 16, .int .i64 1, .int .i64 0, .slice none 0 0, .int .i64 11, .int .i64 0, .int .i64 0, .slice none 0 0] 38)).size))))
            clear o1 k1 hsz
            have HL := Lib.hid (show moduleE (calM S (calC (bs.take 0) 3)) = 0 by rw [HSe.out, law_call (bs.take 0) HTk.out 3 (by decide)]; exact HW.out)
            have HLen := Lib.hid (show (calC (bs.take 0) 3).length ≤ 100000 by rw [HCl.out]; omega)
            have HLs := Lib.hid (show ∀ x ∈ (calM S (calC (bs.take 0) 3)).funcs, x.code.length ≤ 1000000 from calM_short HLen.out)
            go_wp2_with fail
            obtain ⟨y1, y2, y3, y4, by4⟩ := four_newC w3 _ _ _ _ _ rfl
            refine (module_any _ _ _ _ _ _ _ (calM S (calC (bs.take 0) 3)) _ (calM_at (bt := w3.heap.size) (bf := w3.heap.size + 1 + 1) (by rw [HSz.out]; omega) y1 y3 (ListAt.later lasts_ins E1.out by4) HLen.out ((cod_block y2 [⟨66, 0, 0⟩, ⟨11, 0, 0⟩] 2 rfl rfl (by decide)).at (show 2 ≤ 1000000000 by decide) (by decide))) (HE.out.later (C1.out.trans ((B1.out.trans (by4.mono B1.out.size)).mono C1.out.size))) HLs.out).mono ?_
            rw [HL.out]
            rintro e w5 ⟨rfl, c5⟩
            have G5 := Lib.hid (C1.out.trans ((B1.out.trans ((by4.trans (c5.mono by4.size)).mono B1.out.size)).mono C1.out.size))
            clear c5 y1 y2 y3 y4 by4
            go_wp2_with fail
            go_ret
            exact ⟨rfl, G5.out⟩
          · have dj1 : decide ((0 : Int) < (j : Int)) = true := decide_eq_true (by omega)
            have dj2 : decide (0 < j) = true := decide_eq_true (by omega)
            obtain ⟨b0, bt, hbt⟩ : ∃ b0 bt, bs.take j = b0 :: bt := by cases h9 : bs.take j with | nil => (have h8 := congrArg List.length h9; rw [HTl.out] at h8; simp at h8; omega) | cons b0 bt => exact ⟨b0, bt, rfl⟩
            have hDx : D = conI b0 :: bt.map conI := by rw [← HD.out, hbt]; rfl
            have hbl : bt.length + 1 = j := by have h9 := HTl.out; rw [hbt] at h9; exact h9
            have o0 := OffAt.of_cod H0.out (by rw [hDx]; exact List.cons_ne_nil _ _)
            rw [hDx] at o0
            obtain ⟨g, off, rfl⟩ : ∃ g off, ca = some ⟨g, off, none⟩ := by obtain ⟨g, off, cap, cur, h1, _⟩ := o0; simp only [Value.slice.injEq] at h1; exact ⟨g, off, h1.1⟩
            have hBt := Lib.hid hbt
            have HBl := Lib.hid hbl
            have O0 := Lib.hid o0
            clear o0 hDx hbt hbl
            have hgs := Lib.hid (O0.out.lt_size)
            cases b0
            · have hj0 : ¬ (j : Int) = 0 := by have := HBl.out; omega
              have z1 : (w2.alloc (.cells #[.int .i64 16, .int .i64 1, .int .i64 0, .slice none 0 0] 38)).cell? ⟨g, off, none⟩ = some (.int .i64 65) := cell_later (below1 w2 _) O0.out.first
              have zf : (w2.alloc (.cells #[.int .i64 16, .int .i64 1, .int .i64 0, .slice none 0 0] 38)).frozen? ⟨g, off, none⟩ = false := (O0.out.later (below1 w2 _)).free
              have dj1 : decide ((0 : Int) < (j : Int)) = true := decide_eq_true (by omega)
              have dj2 : decide (0 < j) = true := decide_eq_true (by omega)
              have dj3 : (0 : Int) < (j : Int) := by omega
              have dj4 : 0 < j := by omega
              have hst := OffAt.set (O0.out.later (below1 w2 (.cells #[.int .i64 16, .int .i64 1, .int .i64 0, .slice none 0 0] 38))) 66
              have hbx := (box_otherC (b := g) (j := off) (v := .int .i64 66) (heap_alloc_new w2 (.cells #[.int .i64 16, .int .i64 1, .int .i64 0, .slice none 0 0] 38)) (by have := hgs.out.2; omega))
              have hvs : ((w2.alloc (.cells #[.int .i64 16, .int .i64 1, .int .i64 0, .slice none 0 0] 38)).setCell ⟨g, off, none⟩ (.int .i64 66)).heap.size = w2.heap.size + 1 := by simp
              have hvb : Below w1.heap.size w2 ((w2.alloc (.cells #[.int .i64 16, .int .i64 1, .int .i64 0, .slice none 0 0] 38)).setCell ⟨g, off, none⟩ (.int .i64 66)) := ((Below.refl _ _).alloc B0.out.size _).setCell hgs.out.1 _
              go_upto_region 30 with fail
              obtain ⟨V, hV⟩ : ∃ V, (w2.alloc (.cells #[.int .i64 16, .int .i64 1, .int .i64 0, .slice none 0 0] 38)).setCell ⟨g, off, none⟩ (.int .i64 66) = V := ⟨_, rfl⟩
              rw [hV] at hst hbx hvs hvb ⊢
              have O1 := Lib.hid (show OffAt V w1.heap.size (.slice (some ⟨g, off, none⟩) j cc) (conI (!false) :: bt.map conI) from hst)
              have q0 := box_at hbx 0 _ rfl
              have q1 := box_at hbx 1 _ rfl
              have q2 := box_at hbx 2 _ rfl
              have q3 := box_at hbx 3 _ rfl
              have BV := Lib.hid (B0.out.trans hvb)
              have HVS := Lib.hid hvs
              clear hst hbx hvs hvb hV z1 zf dj1 dj2 dj3 dj4 hj0
              go_wp2_with (at_builtin; refine wpList_off rfl _ _ rfl rfl (O1.out.later (below1 V (.cells #[.int .i64 16, .int .i64 1, .int .i64 0, .slice none 0 0, .int .i64 11, .int .i64 0, .int .i64 0, .slice none 0 0] 38))) [⟨16, 1, 0⟩, ⟨11, 0, 0⟩] (A := ⟨V.heap.size, 0, none⟩) (m := 2) (cm := 2) rfl rfl (two_cells (heap_alloc_new V (.cells #[.int .i64 16, .int .i64 1, .int .i64 0, .slice none 0 0, .int .i64 11, .int .i64 0, .int .i64 0, .slice none 0 0] 38))) (show (conI (!false) :: bt.map conI).length + 2 ≤ 1000 by rw [List.length_cons, List.length_map]; have := HBl.out; omega) (Nat.le_trans BV.out.size (below1 V (.cells #[.int .i64 16, .int .i64 1, .int .i64 0, .slice none 0 0, .int .i64 11, .int .i64 0, .int .i64 0, .slice none 0 0] 38)).size) ?_)
              intro a1 p1 w3 o1 k1
              have B1 := Lib.hid (BV.out.trans ((below1 V (.cells #[.int .i64 16, .int .i64 1, .int .i64 0, .slice none 0 0, .int .i64 11, .int .i64 0, .int .i64 0, .slice none 0 0] 38)).mono BV.out.size |>.trans k1))
              have E1 := Lib.hid (show CodeAt w3 (.slice a1 (j + 2) p1) ((calC (bs.take j) 3).map toL) by rw [hBt.out]; exact off_len (OffAt.code o1 (by show ((conI (!false) :: bt.map conI) ++ [(⟨16, 1, 0⟩ : Ins), ⟨11, 0, 0⟩]).length ≤ _; rw [List.length_append, List.length_cons, List.length_map]; show bt.length + 1 + 2 ≤ _; have := HBl.out; omega) (cal_wf ((!false) :: bt) 1)) rfl)
              clear o1 k1 q0 q1 q2 q3
              have HCl := Lib.hid (show (calC (bs.take j) 3).length = j + 2 by rw [hBt.out]; show ((conI (!false) :: bt.map conI) ++ _).length = _; rw [List.length_append, List.length_cons, List.length_map, HBl.out]; rfl)
              have HW := Lib.hid (show calW (bs.take j) 3 = 4 by rw [hBt.out]; rfl)
              have HL := Lib.hid (show moduleE (calM S (calC (bs.take j) 3)) = 4 by rw [HSe.out, law_call (bs.take j) HTk.out 3 (by decide)]; exact HW.out)
              have HLen := Lib.hid (show (calC (bs.take j) 3).length ≤ 100000 by rw [HCl.out]; omega)
              have HLs := Lib.hid (show ∀ x ∈ (calM S (calC (bs.take j) 3)).funcs, x.code.length ≤ 1000000 from calM_short HLen.out)
              go_wp2_with fail
              obtain ⟨y1, y2, y3, y4, by4⟩ := four_newC w3 _ _ _ _ _ rfl
              refine (module_any _ _ _ _ _ _ _ (calM S (calC (bs.take j) 3)) _ (calM_at (bt := w3.heap.size) (bf := w3.heap.size + 1 + 1) (by rw [HSz.out]; omega) y1 y3 (ListAt.later lasts_ins E1.out by4) HLen.out ((cod_block y2 [⟨66, 0, 0⟩, ⟨11, 0, 0⟩] 2 rfl rfl (by decide)).at (show 2 ≤ 1000000000 by decide) (by decide))) (HE.out.later (C1.out.trans ((B1.out.trans (by4.mono B1.out.size)).mono C1.out.size))) HLs.out).mono ?_
              rw [HL.out]
              rintro e w5 ⟨rfl, c5⟩
              have G5 := Lib.hid (C1.out.trans ((B1.out.trans ((by4.trans (c5.mono by4.size)).mono B1.out.size)).mono C1.out.size))
              clear c5 y1 y2 y3 y4 by4
              go_wp2_with fail
              go_ret
              exact ⟨rfl, G5.out⟩
            · have hj0 : ¬ (j : Int) = 0 := by have := HBl.out; omega
              have z1 : (w2.alloc (.cells #[.int .i64 16, .int .i64 1, .int .i64 0, .slice none 0 0] 38)).cell? ⟨g, off, none⟩ = some (.int .i64 66) := cell_later (below1 w2 _) O0.out.first
              have zf : (w2.alloc (.cells #[.int .i64 16, .int .i64 1, .int .i64 0, .slice none 0 0] 38)).frozen? ⟨g, off, none⟩ = false := (O0.out.later (below1 w2 _)).free
              have dj1 : decide ((0 : Int) < (j : Int)) = true := decide_eq_true (by omega)
              have dj2 : decide (0 < j) = true := decide_eq_true (by omega)
              have dj3 : (0 : Int) < (j : Int) := by omega
              have dj4 : 0 < j := by omega
              have hst := OffAt.set (O0.out.later (below1 w2 (.cells #[.int .i64 16, .int .i64 1, .int .i64 0, .slice none 0 0] 38))) 65
              have hbx := (box_otherC (b := g) (j := off) (v := .int .i64 65) (heap_alloc_new w2 (.cells #[.int .i64 16, .int .i64 1, .int .i64 0, .slice none 0 0] 38)) (by have := hgs.out.2; omega))
              have hvs : ((w2.alloc (.cells #[.int .i64 16, .int .i64 1, .int .i64 0, .slice none 0 0] 38)).setCell ⟨g, off, none⟩ (.int .i64 65)).heap.size = w2.heap.size + 1 := by simp
              have hvb : Below w1.heap.size w2 ((w2.alloc (.cells #[.int .i64 16, .int .i64 1, .int .i64 0, .slice none 0 0] 38)).setCell ⟨g, off, none⟩ (.int .i64 65)) := ((Below.refl _ _).alloc B0.out.size _).setCell hgs.out.1 _
              go_upto_region 30 with fail
              obtain ⟨V, hV⟩ : ∃ V, (w2.alloc (.cells #[.int .i64 16, .int .i64 1, .int .i64 0, .slice none 0 0] 38)).setCell ⟨g, off, none⟩ (.int .i64 65) = V := ⟨_, rfl⟩
              rw [hV] at hst hbx hvs hvb ⊢
              have O1 := Lib.hid (show OffAt V w1.heap.size (.slice (some ⟨g, off, none⟩) j cc) (conI (!true) :: bt.map conI) from hst)
              have q0 := box_at hbx 0 _ rfl
              have q1 := box_at hbx 1 _ rfl
              have q2 := box_at hbx 2 _ rfl
              have q3 := box_at hbx 3 _ rfl
              have BV := Lib.hid (B0.out.trans hvb)
              have HVS := Lib.hid hvs
              clear hst hbx hvs hvb hV z1 zf dj1 dj2 dj3 dj4 hj0
              go_wp2_with (at_builtin; refine wpList_off rfl _ _ rfl rfl (O1.out.later (below1 V (.cells #[.int .i64 16, .int .i64 1, .int .i64 0, .slice none 0 0, .int .i64 11, .int .i64 0, .int .i64 0, .slice none 0 0] 38))) [⟨16, 1, 0⟩, ⟨11, 0, 0⟩] (A := ⟨V.heap.size, 0, none⟩) (m := 2) (cm := 2) rfl rfl (two_cells (heap_alloc_new V (.cells #[.int .i64 16, .int .i64 1, .int .i64 0, .slice none 0 0, .int .i64 11, .int .i64 0, .int .i64 0, .slice none 0 0] 38))) (show (conI (!true) :: bt.map conI).length + 2 ≤ 1000 by rw [List.length_cons, List.length_map]; have := HBl.out; omega) (Nat.le_trans BV.out.size (below1 V (.cells #[.int .i64 16, .int .i64 1, .int .i64 0, .slice none 0 0, .int .i64 11, .int .i64 0, .int .i64 0, .slice none 0 0] 38)).size) ?_)
              intro a1 p1 w3 o1 k1
              have B1 := Lib.hid (BV.out.trans ((below1 V (.cells #[.int .i64 16, .int .i64 1, .int .i64 0, .slice none 0 0, .int .i64 11, .int .i64 0, .int .i64 0, .slice none 0 0] 38)).mono BV.out.size |>.trans k1))
              have E1 := Lib.hid (show CodeAt w3 (.slice a1 (j + 2) p1) ((calC (bs.take j) 3).map toL) by rw [hBt.out]; exact off_len (OffAt.code o1 (by show ((conI (!true) :: bt.map conI) ++ [(⟨16, 1, 0⟩ : Ins), ⟨11, 0, 0⟩]).length ≤ _; rw [List.length_append, List.length_cons, List.length_map]; show bt.length + 1 + 2 ≤ _; have := HBl.out; omega) (cal_wf ((!true) :: bt) 1)) rfl)
              clear o1 k1 q0 q1 q2 q3
              have HCl := Lib.hid (show (calC (bs.take j) 3).length = j + 2 by rw [hBt.out]; show ((conI (!true) :: bt.map conI) ++ _).length = _; rw [List.length_append, List.length_cons, List.length_map, HBl.out]; rfl)
              have HW := Lib.hid (show calW (bs.take j) 3 = 4 by rw [hBt.out]; rfl)
              have HL := Lib.hid (show moduleE (calM S (calC (bs.take j) 3)) = 4 by rw [HSe.out, law_call (bs.take j) HTk.out 3 (by decide)]; exact HW.out)
              have HLen := Lib.hid (show (calC (bs.take j) 3).length ≤ 100000 by rw [HCl.out]; omega)
              have HLs := Lib.hid (show ∀ x ∈ (calM S (calC (bs.take j) 3)).funcs, x.code.length ≤ 1000000 from calM_short HLen.out)
              go_wp2_with fail
              obtain ⟨y1, y2, y3, y4, by4⟩ := four_newC w3 _ _ _ _ _ rfl
              refine (module_any _ _ _ _ _ _ _ (calM S (calC (bs.take j) 3)) _ (calM_at (bt := w3.heap.size) (bf := w3.heap.size + 1 + 1) (by rw [HSz.out]; omega) y1 y3 (ListAt.later lasts_ins E1.out by4) HLen.out ((cod_block y2 [⟨66, 0, 0⟩, ⟨11, 0, 0⟩] 2 rfl rfl (by decide)).at (show 2 ≤ 1000000000 by decide) (by decide))) (HE.out.later (C1.out.trans ((B1.out.trans (by4.mono B1.out.size)).mono C1.out.size))) HLs.out).mono ?_
              rw [HL.out]
              rintro e w5 ⟨rfl, c5⟩
              have G5 := Lib.hid (C1.out.trans ((B1.out.trans ((by4.trans (c5.mono by4.size)).mono B1.out.size)).mono C1.out.size))
              clear c5 y1 y2 y3 y4 by4
              go_wp2_with fail
              go_ret
              exact ⟨rfl, G5.out⟩
end Go.Proofs.YthcjgdmmpopplaaGreatDoor.Vld
