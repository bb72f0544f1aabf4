/-
  What AsmLabels of chapter 17 answers. No condition beyond what each theorem names.
-/
import Derived.Test.YtlbgbpgjccbbjaaDoorAsmEx
namespace Go.Proofs.YtlbgbpgjccbbjaaDoor.Asm
open Go.RowKit Go.Maps Go.Proofs.YtlbgbpgjccbbjaaDoor.Op
set_option linter.unusedVariables false
/-- the label of the i-th block -/
def labI (i : Nat) : ByteArray := ⟨#[UInt8.ofNat (97 + i)]⟩
def mkI (i : Nat) : Mk := ⟨2, labI i⟩
def codeI (k : Nat) : List Ins := List.replicate k ⟨2, 64, 0⟩
def opensI (k : Nat) : List Mk := (List.range k).map mkI
def endsI (k : Nat) : List Ins := List.replicate k ⟨11, 0, 0⟩
def midI (k a : Nat) : List Ins := [⟨12, ((k - 1 - a : Nat) : Int), 0⟩, ⟨3, 64, 0⟩, ⟨13, 0, 0⟩, ⟨11, 0, 0⟩, ⟨12, ((k - 1 - a : Nat) : Int), 0⟩]
theorem codeI_succ (k : Nat) : codeI k ++ [⟨2, 64, 0⟩] = codeI (k + 1) := List.replicate_succ'.symm
theorem endsI_succ (k : Nat) : endsI k ++ [⟨11, 0, 0⟩] = endsI (k + 1) := List.replicate_succ'.symm
theorem opensI_succ (k : Nat) : opensI k ++ [mkI k] = opensI (k + 1) := by
  unfold opensI
  rw [List.range_succ, List.map_append]
  rfl
theorem opensI_len (k : Nat) : (opensI k).length = k := by simp [opensI]
theorem opensI_at {k i : Nat} (h : i < k) : (opensI k)[i]? = some (mkI i) := by simp [opensI, h]
theorem opensI_last (k : Nat) : (opensI (k + 1)).getLast? = some (mkI k) := by rw [← opensI_succ]; simp
theorem opensI_drop (k : Nat) : (opensI (k + 1)).dropLast = opensI k := by rw [← opensI_succ]; simp
theorem labI_ne {i j : Nat} (hi : i < 100) (hj : j < 100) (h : (labI i).data.toList = (labI j).data.toList) : i = j := by
  simp [labI] at h
  have h2 := congrArg UInt8.toNat h
  simp at h2
  omega
theorem codeOf_block : codeOf [98, 108, 111, 99, 107] = some 2 := by kernel_rfl
theorem codeOf_loop : codeOf [108, 111, 111, 112] = some 3 := by kernel_rfl
theorem open_block (s : St) (lab : ByteArray) (h : s.opens.length ≠ 256) : openR s [98, 108, 111, 99, 107] lab 64 = (0, { s with code := s.code ++ [⟨2, 64, 0⟩], opens := s.opens ++ [⟨2, lab⟩] }) := by
  unfold openR openOk
  rw [codeOf_block]
  simp [show blockB 2 = true by decide, show kindB 64 = true by decide, h]
theorem open_loop (s : St) (lab : ByteArray) (h : s.opens.length ≠ 256) : openR s [108, 111, 111, 112] lab 64 = (0, { s with code := s.code ++ [⟨3, 64, 0⟩], opens := s.opens ++ [⟨3, lab⟩] }) := by
  unfold openR openOk
  rw [codeOf_loop]
  simp [show blockB 3 = true by decide, show kindB 64 = true by decide, h]
theorem labN_I {k a : Nat} (h : a < k) (hk : k ≤ 40) : labN (labI a).data.toList (opensI k) = some (k - 1 - a) :=
  labN_at (m := mkI a) (by rw [opensI_len]; omega) (by rw [opensI_len, show k - 1 - (k - 1 - a) = a by omega]; exact opensI_at h) (fun j hj m' hm' he => by
    rw [opensI_len, opensI_at (by omega)] at hm'
    cases hm'
    have := labI_ne (by omega) (by omega) he
    omega) rfl
theorem labN_top (l : List Mk) (c : Int) (lab : ByteArray) : labN lab.data.toList (l ++ [⟨c, lab⟩]) = some 0 :=
  labN_at (m := ⟨c, lab⟩) (by simp) (by simp) (fun j hj => by omega) rfl
theorem go_br (s : St) (lab : List UInt8) {k : Nat} (h : labN lab s.opens = some k) : goR s [98, 114] lab = (0, { s with code := s.code ++ [⟨12, k, 0⟩] }) := by
  unfold goR
  rw [show goCode [98, 114] = some 12 by rfl, h]
theorem go_brif (s : St) (lab : List UInt8) {k : Nat} (h : labN lab s.opens = some k) : goR s [98, 114, 95, 105, 102] lab = (0, { s with code := s.code ++ [⟨13, k, 0⟩] }) := by
  unfold goR
  rw [show goCode [98, 114, 95, 105, 102] = some 13 by rfl, h]
theorem codeV_at : ∀ (l : List Ins) (k j : Nat) (m : Ins), l[k]? = some m → j < 4 → (codeV l)[k * 4 + j]? = m.cells[j]?
  | [], k, j, m, h, _ => by simp at h
  | a :: l, 0, j, m, h, hj => by
    simp at h
    subst h
    rw [show codeV (a :: l) = a.cells ++ codeV l from rfl, List.getElem?_append_left (by simp [Ins.cells]; omega)]
    simp
  | a :: l, k + 1, j, m, h, hj => by
    rw [show codeV (a :: l) = a.cells ++ codeV l from rfl, List.getElem?_append_right (by simp [Ins.cells]; omega), ← codeV_at l k j m (by simpa using h) hj]
    simp [Ins.cells]
    rw [show (k + 1) * 4 + j - 4 = k * 4 + j by omega]
theorem conv_one (W : World) (i : Nat) (hi : i < 100) : (convert 46 9 (.slice (some ⟨W.heap.size, 0, none⟩) 1 1)).run Tryd.prog (W.alloc (.cells #[.int .u8 (97 + (i : Int))] 5)) = .ok (.string (labI i)) (W.alloc (.cells #[.int .u8 (97 + (i : Int))] 5)) := by
  have h := World.ownsRow_lit (base := 0) (e := 5) (size := 1) W #[.int .u8 (97 + (i : Int))] 1 (Nat.zero_le _) (by unfold maxLen; decide) rfl
  have hv : (#[.int .u8 (97 + (i : Int))] : Array Value).toList = locV [UInt8.ofNat (97 + i)] := by
    have : (UInt8.ofNat (97 + i)).toNat = 97 + i := by simp; omega
    unfold locV
    rw [List.map_cons, this]
    simp
  rw [hv] at h
  exact conv_loc (l := [UInt8.ofNat (97 + i)]) h
def RelX (w : World) (bb K : Nat) (i : Value) (wr : World) : Prop := ∃ k : Nat, k ≤ K ∧ i = .int .i64 k ∧ AtK wr w.heap.size bb k ⟨0, [], codeI k, opensI k⟩ noK ∧ Below w.heap.size w wr
def RelY (w : World) (bb K a : Nat) (i : Value) (wr : World) : Prop := ∃ k : Nat, k ≤ K ∧ i = .int .i64 k ∧ AtK wr w.heap.size bb (K + 6 + k) ⟨0, [], codeI K ++ midI K a ++ endsI k, opensI (K - k)⟩ noK ∧ Below w.heap.size w wr
set_option maxRecDepth 100000 in
set_option maxHeartbeats 8000000 in
theorem labels_walk (n which : Nat) (hn : n < 256) (hw : which < 256) (w : World) (hE : OpEnv w) : Calls Tryd.prog 9 #[.int .u8 n, .int .u8 which] w fun e w' => e = .returned (.bool true) ∧ Below w.heap.size w w' := by
  have HE := Lib.hid (Env.start hE)
  have HP := Lib.hid hE
  clear hE
  obtain ⟨K, hK⟩ : ∃ K, 1 + n % 40 = K := ⟨_, rfl⟩
  obtain ⟨a, ha⟩ : ∃ a, which % K = a := ⟨_, rfl⟩
  have hKi : (1 + (n : Int) % 40) = (K : Int) := by omega
  have hai : ((which : Int) % (K : Int)) = (a : Int) := by rw [← ha]; exact (Int.natCast_emod _ _).symm
  have HK := Lib.hid (show 1 ≤ K ∧ K ≤ 40 by omega)
  have HLT := Lib.hid (show a < K by rw [← ha]; exact Nat.mod_lt _ (by omega))
  have HKI := Lib.hid hKi
  have HAI := Lib.hid hai
  clear hK ha hKi hai
  go_enter Tryd.func9, Tryd.ntmps9
  go_wp2_with fail
  refine (examples17 w HP.out).mono ?_
  rintro e w0 ⟨rfl, c0⟩
  have HB := Lib.hid c0
  have HE1 := Lib.hid (HE.out.later c0)
  clear c0
  go_wp2_with fail
  refine (k_new ⟨#[]⟩ w0 noK (fun b hb => hb.elim) (by decide)).mono ?_
  rintro e w1 ⟨bb, rfl, hlo, hA, c1⟩
  have HA := Lib.hid (hA _ HE1.out)
  have HB := Lib.hid (HB.out.trans (c1.mono HB.out.size))
  clear hA c1 hlo
  go_wp2_with fail
  rw [HKI.out, HAI.out]
  have k40 := HK.out.2
  have kpos := HK.out.1
  have hak := HLT.out
  go_loopw [10] (fun i wr => RelX w bb K i wr) (fun i _ => K - (intOf i).toNat)
  case atStart => exact ⟨0, Nat.zero_le _, rfl, HA.out, HB.out⟩
  case round =>
    obtain ⟨k, hk, rfl, hA, hB⟩ := hrel
    have HA := Lib.hid hA
    have HB := Lib.hid hB
    clear hA hB
    by_cases hlt : k < K
    · have hd : decide (k < K) = true := decide_eq_true hlt
      have hcv := conv_one wr k (by omega)
      go_wp2_with fail
      have hst : openR ⟨0, [], codeI k, opensI k⟩ [98, 108, 111, 99, 107] (labI k) 64 = (0, ⟨0, [], codeI (k + 1), opensI (k + 1)⟩) := by
        rw [open_block _ _ (by show (opensI k).length ≠ 256; rw [opensI_len]; omega)]
        show ((0 : Int), (⟨0, [], codeI k ++ [⟨2, 64, 0⟩], opensI k ++ [mkI k]⟩ : St)) = _
        rw [codeI_succ, opensI_succ]
      refine (k_open ((HA.out.alloc _).sub (fun b hb => .inl hb)) (by omega) ⟨#[98, 108, 111, 99, 107]⟩ (labI k) 64 (by unfold maxLen; decide) 0 _ hst).mono ?_
      rintro e w3 ⟨rfl, hA, hS⟩
      have HA3 := Lib.hid hA
      have HB3 := Lib.hid ((HB.out.alloc HB.out.size _).trans hS.1)
      clear hA hS hcv hst
      go_wp2_with fail
      go_roundw
      case rel => exact ⟨k + 1, by omega, by go_num, HA3.out, HB3.out⟩
      case measure => simp [intOf]; omega
    · obtain rfl : K = k := by omega
      have hd : decide (K < K) = false := by simp
      have hcv := conv_one wr a (by omega)
      go_wp2_with fail
      have hs1 : goR ⟨0, [], codeI K, opensI K⟩ [98, 114] (labI a).data.toList = (0, ⟨0, [], codeI K ++ [⟨12, ((K - 1 - a : Nat) : Int), 0⟩], opensI K⟩) := go_br _ _ (labN_I hak k40)
      refine (k_go ((HA.out.alloc _).sub (fun b hb => .inl hb)) (by omega) ⟨#[98, 114]⟩ (labI a) (by unfold maxLen; decide) 0 _ hs1).mono ?_
      rintro e w3 ⟨rfl, hA, hS⟩
      have HA := Lib.hid hA
      have HB := Lib.hid ((HB.out.alloc HB.out.size _).trans hS.1)
      clear hA hS hcv hs1
      go_wp2_with fail
      have hs1 : openR ⟨0, [], codeI K ++ [⟨12, ((K - 1 - a : Nat) : Int), 0⟩], opensI K⟩ [108, 111, 111, 112] (labI a) 64 = (0, ⟨0, [], (codeI K ++ [⟨12, ((K - 1 - a : Nat) : Int), 0⟩]) ++ [⟨3, 64, 0⟩], opensI K ++ [⟨3, labI a⟩]⟩) := open_loop _ _ (by show (opensI K).length ≠ 256; rw [opensI_len]; omega)
      refine (k_open HA.out (by omega) ⟨#[108, 111, 111, 112]⟩ (labI a) 64 (by unfold maxLen; decide) 0 _ hs1).mono ?_
      rintro e w4 ⟨rfl, hA, hS⟩
      have HA := Lib.hid hA
      have HB := Lib.hid (HB.out.trans hS.1)
      clear hA hS hs1
      go_wp2_with fail
      refine (k_go HA.out (by omega) ⟨#[98, 114, 95, 105, 102]⟩ (labI a) (by unfold maxLen; decide) 0 _ (go_brif _ _ (labN_top (opensI K) 3 (labI a)))).mono ?_
      rintro e w5 ⟨rfl, hA, hS⟩
      have HA := Lib.hid hA
      have HB := Lib.hid (HB.out.trans hS.1)
      clear hA hS
      go_wp2_with fail
      have hs1 : closeR ⟨0, [], ((codeI K ++ [⟨12, ((K - 1 - a : Nat) : Int), 0⟩]) ++ [⟨3, 64, 0⟩]) ++ [⟨13, ((0 : Nat) : Int), 0⟩], opensI K ++ [⟨3, labI a⟩]⟩ = (0, ⟨0, [], (((codeI K ++ [⟨12, ((K - 1 - a : Nat) : Int), 0⟩]) ++ [⟨3, 64, 0⟩]) ++ [⟨13, ((0 : Nat) : Int), 0⟩]) ++ [⟨11, 0, 0⟩], opensI K⟩) := by
        unfold closeR
        rw [show (opensI K ++ [(⟨3, labI a⟩ : Mk)]).getLast? = some ⟨3, labI a⟩ by simp, show (opensI K ++ [(⟨3, labI a⟩ : Mk)]).dropLast = opensI K by simp]
      refine (k_close HA.out (by omega) 0 _ hs1).mono ?_
      rintro e w6 ⟨rfl, hA, hS⟩
      have HA := Lib.hid hA
      have HB := Lib.hid (HB.out.trans hS.1)
      clear hA hS hs1
      go_wp2_with fail
      refine (k_go HA.out (by omega) ⟨#[98, 114]⟩ (labI a) (by unfold maxLen; decide) 0 _ (go_br _ _ (labN_I hak k40))).mono ?_
      rintro e w7 ⟨rfl, hA, hS⟩
      have HA := Lib.hid hA
      have HB := Lib.hid (HB.out.trans hS.1)
      clear hA hS
      go_wp2_with fail
      refine (k_go HA.out (by omega) ⟨#[110, 111, 112]⟩ (labI a) (by unfold maxLen; decide) 1 _ (by rfl)).mono ?_
      rintro e w8 ⟨rfl, hA, hS⟩
      have hA2 : AtK w8 w.heap.size bb (K + 6) ⟨0, [], codeI K ++ midI K a ++ endsI 0, opensI K⟩ noK := by
        have h := hA.mono (n' := K + 6) (by omega)
        simpa [midI, endsI] using h
      have HA := Lib.hid hA2
      have HB := Lib.hid (HB.out.trans hS.1)
      clear hA hS hA2
      go_wp2_with fail
      go_loopw [12] (fun i wr => RelY w bb K a i wr) (fun i _ => K - (intOf i).toNat)
      case atStart => exact ⟨0, Nat.zero_le _, rfl, by rw [Nat.sub_zero]; exact HA.out, HB.out⟩
      case round =>
        obtain ⟨k, hk, rfl, hA, hB⟩ := hrel
        have HA := Lib.hid hA
        have HB := Lib.hid hB
        clear hA hB
        by_cases hlt : k < K
        · have hd2 : decide (k < K) = true := decide_eq_true hlt
          have hs1 : closeR ⟨0, [], codeI K ++ midI K a ++ endsI k, opensI (K - k)⟩ = (0, ⟨0, [], codeI K ++ midI K a ++ endsI (k + 1), opensI (K - (k + 1))⟩) := by
            obtain ⟨m, hm⟩ : ∃ m, K - k = m + 1 := ⟨K - k - 1, by omega⟩
            unfold closeR
            rw [hm, opensI_last, opensI_drop, show K - (k + 1) = m by omega, ← endsI_succ]
            simp
          have HS1 := Lib.hid hs1
          clear hs1
          go_wp2_with fail
          refine (k_close HA.out (by omega) 0 _ HS1.out).mono ?_
          rintro e w3 ⟨rfl, hA, hS⟩
          have HA3 := Lib.hid hA
          have HB3 := Lib.hid (HB.out.trans hS.1)
          clear hA hS
          go_wp2_with fail
          go_roundw
          case rel => exact ⟨k + 1, by omega, by go_num, HA3.out, HB3.out⟩
          case measure => simp [intOf]; omega
        · obtain rfl : K = k := by omega
          have hd2 : decide (K < K) = false := by simp
          obtain ⟨sF, hsF⟩ : ∃ sF : St, (⟨0, [], codeI K ++ midI K a ++ endsI K, []⟩ : St) = sF := ⟨_, rfl⟩
          have hA := HA.out
          rw [Nat.sub_self, show opensI 0 = [] from rfl, hsF] at hA
          have HF := Lib.hid hsF
          have HA := Lib.hid hA
          clear hA hsF
          go_wp2_with fail
          refine (k_go HA.out (by omega) ⟨#[98, 114]⟩ (labI a) (by unfold maxLen; decide) 13 sF (by rw [← HF.out]; rfl)).mono ?_
          rintro e w3 ⟨rfl, hA, hS⟩
          have HA := Lib.hid hA
          have HB := Lib.hid (HB.out.trans hS.1)
          clear hA hS
          go_wp2_with fail
          refine (k_done HA.out (by omega) 0 (by rw [← HF.out]) (by decide) (by decide)).mono ?_
          rintro e w8 ⟨g, cap, rfl, ho, hA, c8⟩
          obtain ⟨L, hL⟩ : ∃ L, sF.code.length = L := ⟨_, rfl⟩
          rw [hL] at ho ⊢
          have hLv : L = 2 * K + 5 := by
            rw [← hL, ← HF.out]
            simp [codeI, midI, endsI]
            omega
          have hcell : ∀ (i : Nat) (m : Ins), (sF.code ++ [⟨11, 0, 0⟩])[i]? = some m → w8.cell? ⟨g, i * 4 + 1, none⟩ = some (.int .i64 m.a) := fun i m hm => by
            have hlt2 := (List.getElem?_eq_some_iff.1 hm).1
            rw [List.length_append, hL, List.length_singleton] at hlt2
            rw [ho.cellAt _ (by omega), codeV_at _ i 1 m hm (by decide)]
            rfl
          have hcode : ∀ (i : Nat), i < 5 → (sF.code ++ [⟨11, 0, 0⟩])[K + i]? = (midI K a)[i]? := fun i hi => by
            rw [← HF.out]
            show ((codeI K ++ midI K a ++ endsI K) ++ [⟨11, 0, 0⟩])[K + i]? = _
            rw [List.append_assoc, List.append_assoc, List.getElem?_append_right (by simp [codeI]), show (codeI K).length = K by simp [codeI], Nat.add_sub_cancel_left, List.getElem?_append_left (by simp [midI]; omega)]
          have x0 : w8.cell? ⟨g, K * 4 + 1, none⟩ = some (.int .i64 ((K - 1 - a : Nat) : Int)) := hcell K _ (hcode 0 (by decide))
          have x2 : w8.cell? ⟨g, (K + 2) * 4 + 1, none⟩ = some (.int .i64 0) := hcell (K + 2) _ (hcode 2 (by decide))
          have x4 : w8.cell? ⟨g, (K + 4) * 4 + 1, none⟩ = some (.int .i64 ((K - 1 - a : Nat) : Int)) := hcell (K + 4) _ (hcode 4 (by decide))
          have hgl := (ho.lt g rfl).2
          have hx : ((K - 1 - a : Nat) : Int) = (K : Int) - 1 - (a : Int) := by omega
          rw [hx] at x0 x4
          have HA := Lib.hid hA
          have HB := Lib.hid (HB.out.trans (c8.mono HB.out.size))
          clear hA c8 ho hcell hcode hL hx
          have hd5 : decide (L + 1 < K + 5) = false := decide_eq_false (by omega)
          go_wp2_with fail
          refine (k_close (HA.out.alloc _) (by omega) 1 sF (by rw [← HF.out]; rfl)).mono ?_
          rintro e w10 ⟨rfl, hA, hS⟩
          have HA := Lib.hid hA
          have HB := Lib.hid ((HB.out.alloc HB.out.size _).trans hS.1)
          clear hA hS
          go_wp2_with fail
          refine (k_else HA.out (by omega) 1 sF (by rw [← HF.out]; rfl)).mono ?_
          rintro e w11 ⟨rfl, hA, hS⟩
          have HB := Lib.hid (HB.out.trans hS.1)
          clear hA hS
          go_wp2_with fail
          go_ret
          exact ⟨rfl, HB.out⟩
end Go.Proofs.YtlbgbpgjccbbjaaDoor.Asm
