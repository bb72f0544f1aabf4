/-
  EncLoc, EncCode, EncI in one.
-/
import Derived.Test.YtmfdabkmijbffaaGreatDoorEnB
import Derived.Lib.ConvBytes
import Derived.Lib.SmallJoins
import Derived.Laws.OwnMore
import Derived.Test.YtmfdabkmijbffaaGreatDoorModIn
/- EncLoc: What package enc's locals answers: the runs of a text. No condition beyond what each theorem names. -/
namespace Go.Proofs.YtmfdabkmijbffaaGreatDoor.Enc
open Go.RowKit Go.Maps Go.Proofs.YtmfdabkmijbffaaGreatDoor.Op Go.Proofs.YtmfdabkmijbffaaGreatDoor.Mod Go.Proofs.YtmfdabkmijbffaaGreatDoor.Leb Go.Proofs.YtmfdabkmijbffaaGreatDoor.Bytes
set_option linter.unusedVariables false
def runsV (l : List (Nat × UInt8)) : List Value := l.flatMap fun r => [.int .i64 (r.1 : Int), .int .u8 (r.2.toNat : Int)]
theorem runsV_app (l r : List (Nat × UInt8)) : runsV (l ++ r) = runsV l ++ runsV r := by unfold runsV; rw [List.flatMap_append]
theorem runsV_len (l : List (Nat × UInt8)) : (runsV l).length = l.length * 2 := by
  induction l with
  | nil => rfl
  | cons r l ih =>
    rw [show runsV (r :: l) = [.int .i64 (r.1 : Int), .int .u8 (r.2.toNat : Int)] ++ runsV l from rfl, List.length_append, ih, List.length_cons]
    simp
    omega
theorem one_runs (l : List (Nat × UInt8)) : ∀ u ∈ runsV l, u.oneCell' = true := by
  intro u hu
  obtain ⟨r, _, hr⟩ := List.mem_flatMap.1 hu
  simp at hr
  rcases hr with rfl | rfl <;> rfl
theorem runsV_at {l : List (Nat × UInt8)} {i : Nat} {r : Nat × UInt8} (h : l[i]? = some r) : (runsV l)[i * 2]? = some (.int .i64 (r.1 : Int)) ∧ (runsV l)[i * 2 + 1]? = some (.int .u8 (r.2.toNat : Int)) := by
  have hi := (List.getElem?_eq_some_iff.1 h).1
  have e : l = l.take i ++ r :: l.drop (i + 1) := by
    have h2 := (List.getElem?_eq_some_iff.1 h).2
    rw [← h2, ← List.drop_eq_getElem_cons, List.take_append_drop]
  have hl : (runsV (l.take i)).length = i * 2 := by rw [runsV_len, List.length_take, Nat.min_eq_left (by omega)]
  rw [e, runsV_app, List.getElem?_append_right (by omega), List.getElem?_append_right (by omega), hl, Nat.sub_self, show i * 2 + 1 - i * 2 = 1 by omega]
  exact ⟨rfl, rfl⟩
theorem runsOf_snoc (l : List UInt8) (b : UInt8) : runsOf (l ++ [b]) = runStep (runsOf l) b := by unfold runsOf; rw [List.foldl_append]; rfl
theorem step_new {l : List (Nat × UInt8)} {b : UInt8} (h : ∀ n k, l.getLast? = some (n, k) → k ≠ b) : runStep l b = l ++ [(1, b)] := by
  unfold runStep
  cases hl : l.getLast? with
  | none =>
    rw [List.getLast?_eq_none_iff.1 hl]
    rfl
  | some p =>
    obtain ⟨n, k⟩ := p
    simp only
    rw [if_neg (h n k hl)]
theorem step_more (l : List (Nat × UInt8)) (n : Nat) (b : UInt8) : runStep (l ++ [(n, b)]) b = l ++ [(n + 1, b)] := by
  unfold runStep
  simp
theorem info_run : (Tryz.prog.info? 195).map (fun i => (i.zero, i.size, i.bytes)) = some (some (.agg #[.int .i64 0, .int .u8 0]), 2, 16) := by kernel_rfl
def runRows (l : List (Nat × UInt8)) : List (List Value) := l.map fun r => [.int .i64 (r.1 : Int), .int .u8 (r.2.toNat : Int)]
theorem runRows_at {l : List (Nat × UInt8)} {i : Nat} {r : List Value} (h : (runRows l)[i]? = some r) : ∃ x, l[i]? = some x ∧ r = [.int .i64 (x.1 : Int), .int .u8 (x.2.toNat : Int)] := by
  unfold runRows at h
  rw [List.getElem?_map, Option.map_eq_some_iff] at h
  obtain ⟨x, h1, h2⟩ := h
  exact ⟨x, h1, h2.symm⟩
theorem flat_runs_len (l : List (Nat × UInt8)) : (l.flatMap runL).length ≤ l.length * 11 := by
  induction l with
  | nil => simp
  | cons z zs ih =>
    rw [List.flatMap_cons, List.length_append, List.length_cons, Nat.add_mul]
    have : (runL z).length ≤ 11 := by
      unfold runL
      rw [List.length_append]
      have := num_len (z.1 : Nat)
      simp
      omega
    omega
set_option maxRecDepth 100000 in
set_option maxHeartbeats 1000000 in
theorem enclist_runs (v : Value) (l : List (Nat × UInt8)) (w : World) (hr : RowAt w 2 v (runRows l)) (hz : l.length ≤ 1000000000000) :
    Calls Tryz.prog 134 #[v, .func (.func 135) #[] #[]] w fun e w' => e = .returned (.string (bs (listL runL l))) ∧ Below w.heap.size w w' := by
  obtain ⟨la, c, rfl, hx⟩ := hr
  have hr : RowAt w 2 (.slice la (runRows l).length c) (runRows l) := ⟨la, c, rfl, hx⟩
  have hlen : (runRows l).length = l.length := by simp [runRows]
  have hout : outs (fun j => runL (l.getD j (0, 0))) (runRows l).length = l.flatMap runL := by
    rw [hlen]
    exact outs_list runL _ l fun j x hx => by rw [List.getD_eq_getElem?_getD, hx]; rfl
  have eg : ∀ args w, (callFunc 135 args).run Tryz.prog w = .ok (.enter 135 args) w := enters_of Tryz.func135 (by kernel_rfl) rfl
  have hform : ∀ (j : Nat) (r : List Value), (runRows l)[j]? = some r → ∃ (e0 : Int) (e1 : Int), r = [(.int .i64 e0), (.int .u8 e1)] := by
    intro j r hrj
    obtain ⟨x, _, rfl⟩ := runRows_at hrj
    exact ⟨_, _, rfl⟩
  have hone : ∀ (W : World) (j : Nat) (r : List Value), (runRows l)[j]? = some r → Below w.heap.size w W → w.heap.size ≤ W.heap.size → Calls Tryz.prog 135 (#[.agg r.toArray] ++ #[]) W fun e w' => e = .returned (.string (bs (runL (l.getD j (0, 0))))) ∧ Below w.heap.size w w' ∧ Keeps (fun _ => False) W w' := by
    intro W j r hrj hI hsz
    obtain ⟨x, hx, rfl⟩ := runRows_at hrj
    rw [show l.getD j (0, 0) = x by rw [List.getD_eq_getElem?_getD, hx]; rfl, show (#[.agg [.int .i64 (x.1 : Int), .int .u8 (x.2.toNat : Int)].toArray] ++ #[] : Array Value) = #[.agg #[.int .i64 (x.1 : Int), .int .u8 (x.2.toNat : Int)]] from rfl]
    refine (run_any (x.1 : Int) x.2 W).mono ?_
    rintro e w' ⟨rfl, c1⟩
    exact ⟨rfl, hI.trans (c1.mono hI.size), .of_below c1⟩
  have hroom : (numL (runRows l).length).length + (outs (fun j => runL (l.getD j (0, 0))) (runRows l).length).length ≤ 140737488355328 := by
    rw [hout, hlen]
    have h1 := flat_runs_len l
    have h2 := num_len l.length
    omega
  have h := enclist_run la c (runRows l) (fun j => runL (l.getD j (0, 0))) _ #[] eg (fun _ W => Below w.heap.size w W) (fun _ => False) w (fun k hk => hk.elim) (Below.refl _ _) (fun j W W' h1 h2 h3 => h1.trans h3) hform (fun j W hW => hr.later hW) hone hroom
  rw [hout, hlen] at h
  rw [hlen]
  refine h.mono ?_
  rintro e w' ⟨rfl, h1, _⟩
  exact ⟨rfl, h1⟩
theorem row_of_own {w : World} {B : Nat} {e : TypeId} {v : Value} {l : List (Nat × UInt8)} (h : w.ownsRow B e 2 v l.length (runsV l)) (hl : l.length ≤ 9223372036854775807) : RowAt w 2 v (runRows l) := by
  have hlen : (runRows l).length = l.length := by simp [runRows]
  rcases Go.Joins.ownsRow_forms h with ⟨rfl, h0⟩ | ⟨g, cap, rfl⟩
  · exact ⟨none, 0, by rw [hlen, h0], by omega, fun i r hr => by
      have := (List.getElem?_eq_some_iff.1 hr).1
      omega⟩
  · refine ⟨_, cap, by rw [hlen], by omega, fun i r hr => ?_⟩
    have hi := (List.getElem?_eq_some_iff.1 hr).1
    obtain ⟨x, hx, rfl⟩ := runRows_at hr
    obtain ⟨a0, a1⟩ := runsV_at hx
    refine ⟨rfl, g, 0, rfl, (h.lt g rfl).2, fun j u hu => ?_⟩
    match j, hu with
    | 0, hu => rw [Nat.zero_add, Nat.add_zero, h.cellAt (i * 2) (by omega), a0]; exact hu
    | 1, hu => rw [Nat.zero_add, h.cellAt (i * 2 + 1) (by omega), a1]; exact hu
abbrev RelL (w W0 : World) (n : Nat) (l : List UInt8) (gk : Nat) (s3 s10 : Value) (wr : World) : Prop :=
  ∃ (v : Value) (k : Nat) (rs : List (Nat × UInt8)), v = s3 ∧ k ≤ n ∧ n - k ≤ gk ∧ s10 = .int .i64 k ∧ Hid (runsOf (l.take k) = rs) ∧ Hid (rs.length ≤ k ∧ ∀ r ∈ rs, r.1 ≤ k) ∧ Hid (wr.ownsRow (w.heap.size + 1) 195 2 v rs.length (runsV rs)) ∧ Hid (Below (w.heap.size + 1) W0 wr)
set_option maxRecDepth 100000 in
set_option maxHeartbeats 4000000 in
theorem locals_any (s : ByteArray) (w : World) (hs : s.size ≤ 1000000000000) :
    Calls Tryz.prog 38 #[.string s] w fun e w' => e = .returned (.string (bs (localsL s.data.toList))) ∧ Below w.heap.size w w' := by
  obtain ⟨i0, hi, hz0, hz1, hz2⟩ := info_of info_run
  obtain ⟨W0, hW0⟩ : ∃ W0, Lib.bytesWorld w 5 s = W0 := ⟨_, rfl⟩
  have hcv := Lib.run_convert_string_bytes (P := Tryz.prog) w 9 45 5 s Tryz.underlying9 Tryz.underlying45 Tryz.underlying5
  rw [hW0] at hcv
  have z0 : W0.heap.size = w.heap.size + 1 := by rw [← hW0]; exact Lib.bytesWorld_size _ _ _
  have B0 : Below w.heap.size w W0 := by
    rw [← hW0]
    exact ⟨rfl, rfl, rfl, by rw [Lib.bytesWorld_size]; omega, fun k hk => Lib.bytesWorld_at_old _ _ _ _ hk⟩
  have HC := Lib.hid (fun (j : Nat) (x : UInt8) (hx : s.data.toList[j]? = some x) => (show W0.cell? ⟨w.heap.size, j, none⟩ = some (.int .u8 (x.toNat : Int)) from by
    rw [← hW0, Lib.bytesWorld_cell _ _ _ _ (List.getElem?_eq_some_iff.1 hx).1, List.getD_eq_getElem?_getD, hx]
    rfl))
  have HB0 := Lib.hid B0
  have HZ0 := Lib.hid z0
  obtain ⟨n, hn⟩ : ∃ n, s.size = n := ⟨_, rfl⟩
  have HN := Lib.hid (show s.data.toList.length = n from hn)
  rw [hn] at hcv
  have HS := Lib.hid (show n ≤ 1000000000000 by omega)
  obtain ⟨cp, hcp⟩ : ∃ cp, grownCap w n 0 5 = cp := ⟨_, rfl⟩
  rw [hcp] at hcv
  clear hW0 z0 B0 hn hs hcp
  go_enter Tryz.func38, Tryz.ntmps38
  go_wp2_with fail
  go_loopg [3, 10] n (fun gk s3 s10 wr => RelL w W0 n s.data.toList gk s3 s10 wr)
  case atStart => exact ⟨_, 0, [], rfl, Nat.zero_le _, by omega, rfl, Lib.hid rfl, Lib.hid ⟨Nat.zero_le _, fun r hr => by cases hr⟩, Lib.hid (World.ownsRow_nil _ _ _ _), Lib.hid (Below.refl _ _)⟩
  case round =>
    obtain ⟨s3, k, rs, rfl, hk, hg, rfl, HR, HL, HO, HB⟩ := hrel
    by_cases hlt : k < n
    · obtain ⟨b, hb⟩ : ∃ b, s.data.toList[k]? = some b := ⟨_, List.getElem?_eq_getElem (by rw [HN.out]; exact hlt)⟩
      have hzr : w.heap.size + 1 ≤ wr.heap.size := by have := HB.out.size; have := HZ0.out; omega
      have x0 : wr.cell? ⟨w.heap.size, k, none⟩ = some (.int .u8 (b.toNat : Int)) := (HB.out.cell (p := ⟨w.heap.size, k, none⟩) (Nat.lt_succ_self _)).trans (HC.out k b hb)
      have HT := Lib.hid (show runsOf (s.data.toList.take (k + 1)) = runStep rs b by rw [List.take_add_one, hb, ← HR.out]; exact runsOf_snoc _ _)
      have hltz : (k : Int) < (n : Int) := by omega
      have HKN := Lib.hid hlt
      have hwk : wrap64 ((k : Int) + 1) = (k : Int) + 1 := by have := HS.out; unfold wrap64; omega
      clear hb
      obtain ⟨bn, hbn⟩ : ∃ bn : Int, (b.toNat : Int) = bn := ⟨_, rfl⟩
      have HBN := Lib.hid hbn
      rw [hbn] at x0
      clear hbn
      have HC4 := Lib.hid (show rs.length + 1 ≤ maxLen by have := HL.out.1; have := HS.out; unfold maxLen; omega)
      have HC5 := Lib.hid (show (rs.length + 1) * 16 ≤ 140737488355328 by have := HL.out.1; have := HS.out; omega)
      have HC6 := Lib.hid (show w.heap.size + 1 ≤ (wr.alloc (.cells #[.int .i64 1, .int .u8 bn] 195)).heap.size by simp; omega)
      have HNW := Lib.hid (news_at wr #[.int .i64 1, .int .u8 bn] 195 [.int .i64 1, .int .u8 bn] rfl)
      have ends : ∀ (v' : Value) (w1 : World), w1.ownsRow (w.heap.size + 1) 195 2 v' (rs.length + 1) (runsV rs ++ [.int .i64 1, .int .u8 bn]) → (wr.alloc (.cells #[.int .i64 1, .int .u8 bn] 195)).grownBy w1 s3.ownBlock → runStep rs b = rs ++ [(1, b)] → RelL w W0 n s.data.toList (n - (k + 1)) v' (.int .i64 ((k : Int) + 1)) w1 := fun v' w1 h1 h2 h3 => by
        refine ⟨v', k + 1, rs ++ [(1, b)], rfl, HKN.out, Nat.le_refl _, by go_num, Lib.hid (HT.out.trans h3), Lib.hid ⟨by have := HL.out.1; simp; omega, fun r hr => ?_⟩, Lib.hid ?_, Lib.hid ?_⟩
        · rcases List.mem_append.1 hr with hr | hr
          · have := HL.out.2 r hr; omega
          · rw [List.mem_singleton.1 hr]; simp
        · rw [List.length_append, runsV_app, show runsV [(1, b)] = [.int .i64 1, .int .u8 bn] by rw [← HBN.out]; rfl]
          exact h1
        · exact ((HB.out.alloc hzr _).grown h2 (by simp; omega) (fun j hj => (HO.out.lt j hj).1))
      have HENDS := Lib.hid ends
      clear ends
      by_cases hne : rs = []
      · have hn0 : runStep rs b = rs ++ [(1, b)] := step_new fun n k h => by rw [hne] at h; cases h
        have HN0 := Lib.hid hn0
        obtain ⟨la, lc, rfl⟩ : ∃ la lc, s3 = .slice la 0 lc := by
          rcases Go.Joins.ownsRow_forms HO.out with ⟨rfl, h0⟩ | ⟨g, cap, rfl⟩
          · exact ⟨none, 0, rfl⟩
          · exact ⟨_, cap, by rw [hne]; rfl⟩
        clear hne hn0
        go_wp2_with (at_builtin; refine wpList_append_own _ rfl _ _ 193 rfl (w.heap.size + 1) 195 i0 (.agg #[.int .i64 0, .int .u8 0]) 2 16 Tryz.underlying193 hi hz0 hz1 hz2 rfl (by decide) _ _ _ rfl (HO.out.alloc _) ⟨wr.heap.size, 0, none⟩ 1 1 [.int .i64 1, .int .u8 bn] rfl rfl HNW.out (by intro u hu; simp at hu; rcases hu with rfl | rfl <;> rfl) HC4.out HC5.out HC6.out ?_)
        intro v' w1 hown hgrow _
        obtain ⟨g', cap', rfl⟩ := Go.Joins.ownsRow_form hown (by omega)
        have HE := Lib.hid (HENDS.out _ _ hown hgrow HN0.out)
        clear hown hgrow
        go_wp2_with fail
        go_roundg (n - (k + 1))
        case measure => omega
        case rel => first | exact HE.out | (rw [hwk]; exact HE.out)
      · obtain ⟨rs0, ⟨m, kd⟩, rfl⟩ : ∃ rs0 p, rs = rs0 ++ [p] := by
          rcases List.eq_nil_or_concat rs with h | ⟨l0, x, h⟩
          · exact absurd h hne
          · exact ⟨l0, x, by rw [h, List.concat_eq_append]⟩
        obtain ⟨g, cap, rfl⟩ := Go.Joins.ownsRow_form HO.out (by simp)
        obtain ⟨L, hL⟩ : ∃ L, rs0.length = L := ⟨_, rfl⟩
        have hLn : (rs0 ++ [(m, kd)]).length = L + 1 := by rw [← hL]; simp
        have hat : (rs0 ++ [(m, kd)])[L]? = some (m, kd) := by rw [← hL]; simp
        obtain ⟨a0, a1⟩ := runsV_at hat
        have y0 : wr.cell? ⟨g, L * 2, none⟩ = some (.int .i64 (m : Int)) := (HO.out.cellAt _ (by rw [hLn]; omega)).trans a0
        have y1 : wr.cell? ⟨g, L * 2 + 1, none⟩ = some (.int .u8 (kd.toNat : Int)) := (HO.out.cellAt _ (by rw [hLn]; omega)).trans a1
        have f0 := HO.out.frozenAt (L * 2)
        have hm : m ≤ k := HL.out.2 (m, kd) (by simp)
        rw [hLn] at HO HC4 HC5 HENDS ⊢
        have hLk : L + 1 ≤ k := by have := HL.out.1; rw [hLn] at this; exact this
        have HSS := HS.out
        clear hat a0 a1 hne
        obtain ⟨kn, hkn⟩ : ∃ kn : Int, (kd.toNat : Int) = kn := ⟨_, rfl⟩
        rw [hkn] at y1
        by_cases hq : kd = b
        · subst hq
          obtain rfl : kn = bn := hkn.symm.trans HBN.out
          have hqq : (kn == kn) = true := by simp
          have HST := Lib.hid (step_more rs0 m kd)
          have hwm : wrap64 ((m : Int) + 1) = (m : Int) + 1 := by unfold wrap64; omega
          have hst := HO.out.stored (L * 2) (.int .i64 ((m : Int) + 1))
          have HE := Lib.hid (show RelL w W0 n s.data.toList (n - (k + 1)) (.slice (some ⟨g, 0, none⟩) (L + 1) cap) (.int .i64 ((k : Int) + 1)) (wr.setCell ⟨g, L * 2, none⟩ (.int .i64 ((m : Int) + 1))) by
            refine ⟨_, k + 1, rs0 ++ [(m + 1, kd)], rfl, HKN.out, Nat.le_refl _, by go_num, Lib.hid (HT.out.trans HST.out), Lib.hid ⟨by simp; omega, fun r hr => ?_⟩, Lib.hid ?_, Lib.hid ?_⟩
            · rcases List.mem_append.1 hr with hr | hr
              · have := HL.out.2 r (List.mem_append_left _ hr); omega
              · rw [List.mem_singleton.1 hr]; exact Nat.succ_le_succ hm
            · have hset : (runsV (rs0 ++ [(m, kd)])).set (L * 2) (.int .i64 ((m : Int) + 1)) = runsV (rs0 ++ [(m + 1, kd)]) := by
                have hlr : (runsV rs0).length = L * 2 := by rw [runsV_len, hL]
                rw [runsV_app, runsV_app, List.set_append_right _ _ (by omega), hlr, Nat.sub_self]
                rfl
              rw [← hset, show (rs0 ++ [(m + 1, kd)]).length = L + 1 by rw [← hL]; simp]
              exact hst.1
            · exact HB.out.setCell (p := ⟨g, L * 2, none⟩) (HO.out.lt g rfl).1 _)
          clear hst hkn
          go_wp2_with fail
          go_roundg (n - (k + 1))
          case measure => omega
          case rel => first | exact HE.out | (rw [hwk]; exact HE.out)
        · have hqq : (kn == bn) = false := by
            rw [beq_eq_false_iff_ne, ← hkn, ← HBN.out]
            intro e
            exact hq (UInt8.toNat_inj.1 (by omega))
          have HN0 := Lib.hid (show runStep (rs0 ++ [(m, kd)]) b = rs0 ++ [(m, kd)] ++ [(1, b)] from step_new fun n k h => by simp at h; rw [← h.2]; exact hq)
          clear hq hkn
          go_wp2_with (at_builtin; refine wpList_append_own _ rfl _ _ 193 rfl (w.heap.size + 1) 195 i0 (.agg #[.int .i64 0, .int .u8 0]) 2 16 Tryz.underlying193 hi hz0 hz1 hz2 rfl (by decide) _ _ _ rfl (HO.out.alloc _) ⟨wr.heap.size, 0, none⟩ 1 1 [.int .i64 1, .int .u8 bn] rfl rfl HNW.out (by intro u hu; simp at hu; rcases hu with rfl | rfl <;> rfl) HC4.out HC5.out HC6.out ?_)
          intro v' w1 hown hgrow _
          obtain ⟨g', cap', rfl⟩ := Go.Joins.ownsRow_form hown (by omega)
          have HE := Lib.hid (HENDS.out _ _ hown hgrow HN0.out)
          clear hown hgrow
          go_wp2_with fail
          go_roundg (n - (k + 1))
          case measure => omega
          case rel => first | exact HE.out | (rw [hwk]; exact HE.out)
    · have hltz : ¬ (k : Int) < (n : Int) := by omega
      obtain rfl : k = n := by omega
      have HE := Lib.hid (show runsOf s.data.toList = rs by rw [← HR.out, List.take_of_length_le (by rw [HN.out]; exact Nat.le_refl _)])
      have hcall := enclist_runs s3 rs wr (row_of_own HO.out (by have := HL.out.1; have := HS.out; omega)) (by have := HL.out.1; have := HS.out; omega)
      obtain ⟨la, ln, lc, rfl⟩ : ∃ la ln lc, s3 = .slice la ln lc := by
        rcases Go.Joins.ownsRow_forms HO.out with ⟨rfl, h0⟩ | ⟨g, cap, rfl⟩
        · exact ⟨_, _, _, rfl⟩
        · exact ⟨_, _, _, rfl⟩
      go_wp2_with fail
      refine hcall.mono ?_
      rintro e w5 ⟨rfl, c5⟩
      have HF := Lib.hid (HB0.out.trans ((HB.out.mono (Nat.le_succ _)).trans (c5.mono (by have := HB.out.size; have := HZ0.out; omega))))
      clear c5
      go_wp2_with fail
      go_ret
      exact ⟨by rw [← HE.out]; rfl, HF.out⟩
end Go.Proofs.YtmfdabkmijbffaaGreatDoor.Enc

/- EncCode: What package enc's instr answers of any instruction; the closure that writes a function's code, with what it keeps of codes. No condition beyond what each theorem names. -/
namespace Go.Proofs.YtmfdabkmijbffaaGreatDoor.Enc
open Go.RowKit Go.Maps Go.Proofs.YtmfdabkmijbffaaGreatDoor.Op Go.Proofs.YtmfdabkmijbffaaGreatDoor.Mod Go.Proofs.YtmfdabkmijbffaaGreatDoor.Leb Go.Proofs.YtmfdabkmijbffaaGreatDoor.Bytes
set_option linter.unusedVariables false
/-- what is kept of codes is what is known of them -/
def InfosOk (D : DataW Value) : Prop := IsMap D ∧ ∀ (code : Int) (z : DataW Value), Maps.has D (.int .i64 code) = true → D.atKey (.int .i64 code) z = .held ((opInfo code).getD zeroI).toV
def InfosAt (w : World) (mb : Nat) (k : Nat) : Prop := ∃ n D, w.ownsMap Tryz.prog 3 asIs mb n D ∧ InfosOk D ∧ n ≤ k
theorem infos_block {w : World} {mb k : Nat} (h : InfosAt w mb k) : ∃ es cl, w.heap[mb]? = some (.map es cl) := by
  obtain ⟨n, D, ⟨es, clock, hb, _⟩, _⟩ := h
  exact ⟨es, clock, hb⟩
theorem infos_lt {w : World} {mb k : Nat} (h : InfosAt w mb k) : mb < w.heap.size := by
  obtain ⟨es, cl, hb⟩ := infos_block h
  exact (Array.getElem?_eq_some_iff.1 hb).1
theorem InfosAt.of {w w' : World} {mb k : Nat} (h : InfosAt w mb k) (he : w'.heap[mb]? = w.heap[mb]?) : InfosAt w' mb k := by
  obtain ⟨n, D, h1, h2⟩ := h
  exact ⟨n, D, ownsMap_of h1 he, h2⟩
theorem InfosAt.mono {w : World} {mb k k' : Nat} (h : InfosAt w mb k) (hk : k ≤ k') : InfosAt w mb k' := by
  obtain ⟨n, D, h1, h2, h3⟩ := h
  exact ⟨n, D, h1, h2, Nat.le_trans h3 hk⟩
theorem InfosAt.later {w w' : World} {mb k : Nat} (h : InfosAt w mb k) (hb : Below w.heap.size w w') : InfosAt w' mb k := h.of (hb.block mb (infos_lt h))
theorem infos_put {D : DataW Value} (h : InfosOk D) (code : Int) : InfosOk (D.put (.int .i64 code) (.held ((opInfo code).getD zeroI).toV)) := by
  obtain ⟨hD, hA⟩ := h
  refine ⟨by obtain ⟨es, rfl⟩ := hD; exact ⟨_, rfl⟩, fun m z hm => ?_⟩
  by_cases he : m = code
  · subst he
    exact atKey_put_same (k := .int .i64 m) hD (by simp [WideAt.IsKeyLit]) _ _
  · have hne : (Lit.int .i64 m) ≠ .int .i64 code := fun e => he (by simpa using e)
    rw [has_put_other hne] at hm
    rw [atKey_put_other hne]
    exact hA m z hm
theorem infos_look {w : World} {mb k : Nat} (h : InfosAt w mb k) (code : Int) (hc : (Lit.int .i64 code).wf = true) : ∃ n D, w.ownsMap Tryz.prog 3 asIs mb n D ∧ InfosOk D ∧ n ≤ k ∧ ((Maps.has D (.int .i64 code) = true ∧ ∀ W, W.heap[mb]? = w.heap[mb]? → (Instr.lookup 93 (.map (some mb)) (.int .i64 code) true).run Tryz.prog W = .ok (.tuple #[((opInfo code).getD zeroI).toV, .bool true]) W) ∨ (Maps.has D (.int .i64 code) = false ∧ ∀ W, W.heap[mb]? = w.heap[mb]? → (Instr.lookup 93 (.map (some mb)) (.int .i64 code) true).run Tryz.prog W = .ok (.tuple #[zeroI.toV, .bool false]) W)) := by
  obtain ⟨n, D, h1, h2, h3⟩ := h
  refine ⟨n, D, h1, h2, h3, ?_⟩
  cases hh : Maps.has D (.int .i64 code) with
  | true =>
    refine .inl ⟨rfl, fun W hW => ?_⟩
    obtain ⟨v, ps, hrun, hv⟩ := (ownsMap_of h1 hW).look_ok keyed_int Tryz.underlying93 (zero_info W) (show asIs zeroI.toV = some (.held zeroI.toV, []) from rfl) (key_int code hc)
    have hv2 : DataW.held v = D.atKey (.int .i64 code) (.held zeroI.toV) := congrArg Prod.fst (Option.some.inj hv)
    rw [h2.2 code _ hh] at hv2
    rw [held_inj hv2, hh] at hrun
    exact hrun
  | false =>
    refine .inr ⟨rfl, fun W hW => ?_⟩
    obtain ⟨v, ps, hrun, hv⟩ := (ownsMap_of h1 hW).look_ok keyed_int Tryz.underlying93 (zero_info W) (show asIs zeroI.toV = some (.held zeroI.toV, []) from rfl) (key_int code hc)
    have hv2 : DataW.held v = D.atKey (.int .i64 code) (.held zeroI.toV) := congrArg Prod.fst (Option.some.inj hv)
    rw [atKey_of_not_has hh] at hv2
    rw [held_inj hv2, hh] at hrun
    exact hrun
/-- instr, whatever is known of the code -/
theorem ins_any (x : InsL) (i : Info) (la : Option Addr) (lc : Nat) (w : World) (hl : IntsAt w (.slice la x.labels.length lc) x.labels) (ha : (Lit.int .i64 x.a).wf = true) (hz : x.labels.length ≤ 1000000000000) :
    Calls Tryz.prog 36 #[.agg #[.int .i64 x.op, .int .i64 x.a, .int .i64 x.b, .slice la x.labels.length lc], i.toV] w fun e w' => e = .returned (.string (bs (byteOf x.op :: bodyL i.shape x.a x.b x.labels))) ∧ Below w.heap.size w w' := by
  obtain ⟨nm, sh, ps, rs⟩ := i
  unfold Info.toV bodyL
  by_cases h1 : sh = 1
  · subst h1; exact ins_s1 _ _ _ la lc _ nm ps rs w hl ha hz
  by_cases h2 : sh = 2
  · subst h2; exact ins_s2 _ _ _ la lc _ nm ps rs w hl ha hz
  by_cases h4 : sh = 4
  · subst h4; exact ins_s4 _ _ _ la lc _ nm ps rs w hl ha hz
  by_cases h3 : sh = 3
  · subst h3; exact ins_s3 _ _ _ la lc _ nm ps rs w hl ha hz
  by_cases h5 : sh = 5
  · subst h5; exact ins_s5 _ _ _ la lc _ nm ps rs w hl ha hz
  by_cases h6 : sh = 6
  · subst h6; exact ins_s6 _ _ _ la lc _ nm ps rs w hl ha hz
  by_cases h7 : sh = 7
  · subst h7; exact ins_s7 _ _ _ la lc _ nm ps rs w hl ha hz
  · dsimp only
    rw [if_neg h1, if_neg (by omega), if_neg h3, if_neg h5, if_neg h6, if_neg h7]
    exact ins_s0 _ _ _ la lc _ sh (fun k hk hk7 e => by omega) nm ps rs w hl ha hz
theorem ins_code (x : InsL) (la : Option Addr) (lc : Nat) (w : World) (hl : IntsAt w (.slice la x.labels.length lc) x.labels) (ha : (Lit.int .i64 x.a).wf = true) (hz : x.labels.length ≤ 1000000000000) :
    Calls Tryz.prog 36 #[.agg #[.int .i64 x.op, .int .i64 x.a, .int .i64 x.b, .slice la x.labels.length lc], ((opInfo x.op).getD zeroI).toV] w fun e w' => e = .returned (.string (bs (insL x))) ∧ Below w.heap.size w w' := ins_any x _ la lc w hl ha hz
abbrev RelC (w W1 : World) (mb K : Nat) (code : List InsL) (gk : Nat) (s12 : Value) (wr : World) : Prop :=
  ∃ k : Nat, k ≤ code.length ∧ code.length - k ≤ gk ∧ s12 = .int .i64 k ∧ Hid (Bld 96 (w.heap.size + 1) (w.heap.size + 1) ((code.take k).flatMap insL) wr) ∧ Hid (InfosAt wr mb (K + k)) ∧ Hid (Keeps (fun j => j = mb) W1 wr) ∧ w.heap.size + 1 < wr.heap.size
theorem infos_wf {i : Info} {op : Int} (h : (opInfo op).getD zeroI = i) : True := trivial
set_option maxRecDepth 100000 in
set_option maxHeartbeats 8000000 in
theorem code_any (ty : Int) (loc : ByteArray) (la : Option Addr) (cp : Nat) (code : List InsL) (vb mb K : Nat) (w0 w : World) (hE : OpEnv w0) (hC : CodeAt w0 (.slice la code.length cp) code) (hok : ∀ x ∈ code, InsOk x) (hB : Below w0.heap.size w0 w) (hmb : w0.heap.size ≤ mb) (hvm : vb ≠ mb)
    (hvb : w.cell? ⟨vb, 0, none⟩ = some (.map (some mb))) (hI : InfosAt w mb K) (hK : K + code.length < 1000000000000000000) (hloc : loc.size ≤ 1000000000000) (hlen : (localsL loc.data.toList).length + (code.flatMap insL).length ≤ 140737488355000) (hzs : ∀ x ∈ code, x.labels.length ≤ 1000000000000) :
    Calls Tryz.prog 33 #[.agg #[.int .i64 ty, .string loc, .slice la code.length cp], .pointer (some ⟨vb, 0, none⟩)] w fun e w' => e = .returned (.string (bs (codeL ⟨ty, loc, code⟩))) ∧ InfosAt w' mb (K + code.length) ∧ Keeps (fun j => j = mb) w w' := by
  obtain ⟨W1, hW1⟩ : ∃ W1, w.alloc (.cells #[.int .i64 ty, .string loc, .slice la code.length cp] 84) = W1 := ⟨_, rfl⟩
  obtain ⟨W2, hW2⟩ : ∃ W2, W1.alloc (.cells #[.pointer none, .slice none 0 0] 96) = W2 := ⟨_, rfl⟩
  have B1 : Below w.heap.size w W1 := by rw [← hW1]; exact (Below.refl _ _).alloc (Nat.le_refl _) _
  have z1 : W1.heap.size = w.heap.size + 1 := by rw [← hW1]; simp
  have B2 : Below W1.heap.size W1 W2 := by rw [← hW2]; exact (Below.refl _ _).alloc (Nat.le_refl _) _
  have z2 : W2.heap.size = w.heap.size + 2 := by rw [← hW2]; simp; omega
  have HBL := Lib.hid (show Bld 96 (w.heap.size + 1) (w.heap.size + 1) [] W2 by rw [← hW2, ← z1]; exact Lib.IsBuilderF.of (Lib.fresh_isBuilder _ _ _))
  have q2 : W2.cell? ⟨w.heap.size, 2, none⟩ = some (.slice la code.length cp) := cell_later B2 (by rw [← hW1]; simp)
  have HQ1 := Lib.hid (show W1.cell? ⟨w.heap.size, 1, none⟩ = some (.string loc) by rw [← hW1]; simp)
  have HE := Lib.hid hE
  have HOK := Lib.hid hok
  have HB := Lib.hid hB
  have HMB := Lib.hid hmb
  have HVB := Lib.hid (cell_later B1 hvb)
  have HI2 := Lib.hid ((hI.later B1).later B2)
  have HKL := Lib.hid hK
  have HLOC := Lib.hid hloc
  have HLEN := Lib.hid hlen
  have HZS := Lib.hid hzs
  have HW1 := Lib.hid hW1
  have HW2 := Lib.hid hW2
  have HB1 := Lib.hid B1
  have HK2 := Lib.hid (Keeps.of_below (F := fun j => j = mb) B2)
  obtain ⟨la', cp', hv, hn, hx⟩ := hC.form
  obtain ⟨rfl, rfl⟩ : la = la' ∧ cp = cp' := by simp only [Value.slice.injEq] at hv; exact ⟨hv.1, hv.2.2⟩
  have HX := Lib.hid hx
  have HMW := Lib.hid (show mb < w.heap.size from infos_lt hI)
  have HZ1 := Lib.hid z1
  have HZ2 := Lib.hid z2
  clear hE hok hB hmb hvb hI hK hloc hlen hzs hW1 hW2 B1 B2 hv hx hC z1 z2
  go_enter Tryz.func33, Tryz.ntmps33
  go_upto_region 1 with fail
  rw [HW1.out]
  go_upto_region 2 with fail
  rw [HW2.out]
  rw [show W1.heap.size = w.heap.size + 1 from HZ1.out]
  go_wp2_with fail
  clear q2
  go_loopg [12] code.length (fun gk s12 wr => RelC w W1 mb K code gk s12 wr)
  case atStart => exact ⟨0, Nat.zero_le _, by omega, rfl, HBL, HI2, HK2, by have := HZ2.out; omega⟩
  case round =>
    obtain ⟨k, hk, hg, rfl, HBD, HIN, HKP, hsz⟩ := hrel
    by_cases hlt : k < code.length
    · obtain ⟨x, hxk⟩ : ∃ x, code[k]? = some x := ⟨_, List.getElem?_eq_getElem hlt⟩
      obtain ⟨r, ⟨lv, rfl, hlv, hop⟩, _, b, off, rfl, hb, hcell⟩ := HX.out k x hxk
      have hxm : x ∈ code := List.mem_of_getElem? hxk
      have hBw : Below w0.heap.size w0 wr := HB.out.trans ((HB1.out.mono HB.out.size).trans ⟨HKP.out.os, HKP.out.tape, HKP.out.output, HKP.out.size, fun j hj => HKP.out.block j (by have := HB.out.size; have := HZ1.out; omega) (fun e => by have := HMB.out; omega)⟩)
      obtain ⟨lla, llc, rfl⟩ := intsAt_form hlv
      have x0 := cell_later hBw (hcell 0 _ rfl)
      have x1 := cell_later hBw (hcell 1 _ rfl)
      have x2 := cell_later hBw (hcell 2 _ rfl)
      have x3 := cell_later hBw (hcell 3 _ rfl)
      rw [Nat.add_zero] at x0
      have HBW := Lib.hid hBw
      have HA := Lib.hid ((HOK.out x hxm).a)
      have HZX := Lib.hid (HZS.out x hxm)
      have HTK := Lib.hid (show (code.take (k + 1)).flatMap insL = (code.take k).flatMap insL ++ insL x by rw [List.take_add_one, hxk, List.flatMap_append]; simp)
      have HLN := Lib.hid (show ((code.take k).flatMap insL).length + (insL x).length ≤ (code.flatMap insL).length by
        have h1 : code = code.take (k + 1) ++ code.drop (k + 1) := (List.take_append_drop _ _).symm
        have h2 := congrArg (fun l => (l.flatMap insL).length) h1
        simp only [List.flatMap_append, List.length_append] at h2
        rw [HTK.out, List.length_append] at h2
        omega)
      have HMR := Lib.hid (infos_lt HIN.out)
      obtain ⟨nn, D, hown, hD, hnk, hlook⟩ := infos_look HIN.out x.op hop
      obtain ⟨op, a, b', zs⟩ := x
      dsimp only at x0 x1 x2 x3 hlv HA HZX HTK HLN hop hlook
      obtain ⟨XB, hXB⟩ : ∃ XB, wr.alloc (.cells #[.int .i64 op, .int .i64 a, .int .i64 b', .slice lla zs.length llc] 33) = XB := ⟨_, rfl⟩
      have zb : XB.heap.size = wr.heap.size + 1 := by rw [← hXB]; simp
      have BXB : Below wr.heap.size wr XB := by rw [← hXB]; exact (Below.refl _ _).alloc (Nat.le_refl _) _
      have y0 : XB.cell? ⟨wr.heap.size, 0, none⟩ = some (.int .i64 op) := by rw [← hXB]; simp
      have y1 : XB.cell? ⟨wr.heap.size, 1, none⟩ = some (.int .i64 a) := by rw [← hXB]; simp
      have y2 : XB.cell? ⟨wr.heap.size, 2, none⟩ = some (.int .i64 b') := by rw [← hXB]; simp
      have y3 : XB.cell? ⟨wr.heap.size, 3, none⟩ = some (.slice lla zs.length llc) := by rw [← hXB]; simp
      have v0 : XB.cell? ⟨vb, 0, none⟩ = some (.map (some mb)) := cell_later BXB (HKP.out.cell HVB.out hvm)
      have HXB := Lib.hid hXB
      have HBXB := Lib.hid BXB
      have HZB := Lib.hid zb
      have HVL := Lib.hid (show vb < wr.heap.size from World.block_lt_of_cell? _ _ (HKP.out.cell HVB.out hvm))
      have HBELOW := Lib.hid (fun (W : World) (h : Keeps (fun j => j = mb) W1 W) => (show Below w0.heap.size w0 W from HB.out.trans ((HB1.out.mono HB.out.size).trans ⟨h.os, h.tape, h.output, h.size, fun j hj => h.block j (by have := HB.out.size; have := HZ1.out; omega) (fun e => by have := HMB.out; omega)⟩)))
      have hmbX : XB.heap[mb]? = wr.heap[mb]? := BXB.block mb HMR.out
      have hltz : (k : Int) < (code.length : Int) := by omega
      obtain ⟨S, hS⟩ : ∃ S, bs (insL ⟨op, a, b', zs⟩) = S := ⟨_, rfl⟩
      have HS := Lib.hid hS
      have hic := fun (W : World) (hW : Below w0.heap.size w0 W) => ins_code ⟨op, a, b', zs⟩ lla llc W (intsAt_later hlv hW) HA.out HZX.out
      dsimp only at hic
      rw [hS] at hic
      obtain ⟨i, hi⟩ : ∃ i, (opInfo op).getD zeroI = i := ⟨_, rfl⟩
      rw [hi] at hlook hic
      have HII := Lib.hid hi
      obtain ⟨nm, sh, ps, rs⟩ := i
      unfold Info.toV at hic hlook
      dsimp only at hic hlook
      have HIC := Lib.hid hic
      clear hi hS hic hlv hcell HX hxm
      rcases hlook with ⟨hhas, hrun⟩ | ⟨hhas, hrun⟩
      · have hrunX := hrun XB hmbX
        obtain ⟨XI, hXI⟩ : ∃ XI, XB.alloc (.cells #[.string nm, .int .i64 sh, .string ps, .string rs] 98) = XI := ⟨_, rfl⟩
        have zi : XI.heap.size = wr.heap.size + 2 := by rw [← hXI]; simp; omega
        have BXI : Below XB.heap.size XB XI := by rw [← hXI]; exact (Below.refl _ _).alloc (Nat.le_refl _) _
        have hrowi : XI.heap[wr.heap.size + 1]? = some (.cells #[.string nm, .int .i64 sh, .string ps, .string rs] 98 (0, 0)) := by rw [← hXI, ← zb]; exact heap_alloc_new _ _
        have HROW := Lib.hid hrowi
        have HXI := Lib.hid hXI
        have HBX2 := Lib.hid (HBXB.out.trans (BXI.mono (by omega)))
        have HBDW := Lib.hid (Bld.later HBD.out HBX2.out)
        have HIW := Lib.hid (HIN.out.later HBX2.out)
        have HKW := Lib.hid (HKP.out.trans (Keeps.of_below (F := fun j => j = mb) HBX2.out) (fun j hj => .inl hj))
        have HZW := Lib.hid (show w.heap.size + 1 < XI.heap.size by omega)
        have HBV := Lib.hid BXI
        clear hrun hXI zi BXI hrowi hown hD hnk hhas
        go_upto_region 6 with fail
        rw [HXI.out]
        clear hrunX hXB
        replace y0 := cell_later HBV.out y0
        replace y1 := cell_later HBV.out y1
        replace y2 := cell_later HBV.out y2
        replace y3 := cell_later HBV.out y3
        have i0 := cell_of_row XI _ 0 _ _ _ HROW.out
        have i1 := cell_of_row XI _ 1 _ _ _ HROW.out
        have i2 := cell_of_row XI _ 2 _ _ _ HROW.out
        have i3 := cell_of_row XI _ 3 _ _ _ HROW.out
        clear v0
        go_wp2_with fail
        refine (HIC.out _ (HBW.out.trans (HBX2.out.mono HBW.out.size))).mono ?_
        rintro e w6 ⟨rfl, c6⟩
        have z6 := c6.size
        have HB6 := Lib.hid (HBDW.out.later c6)
        have HI6 := Lib.hid (HIW.out.later c6)
        have HK6 := Lib.hid (HKW.out.trans (Keeps.of_below (F := fun j => j = mb) c6) (fun j hj => .inl hj))
        have hz6 : w.heap.size + 1 < w6.heap.size := by have := HZW.out; omega
        clear c6 y0 y1 y2 y3 i0 i1 i2 i3
        go_wp2_with fail
        refine (write_any bt_builder (w.heap.size + 1) (w.heap.size + 1) _ S w6 HB6.out (by rw [← HS.out, bs_size]; have h8 := HLN.out; have h9 := HLEN.out; omega) (by omega)).mono ?_
        rintro e w7 ⟨rfl, b7, c7, _⟩
        have z7 := c7.size
        have HB7 := Lib.hid (show Bld 96 (w.heap.size + 1) (w.heap.size + 1) ((code.take (k + 1)).flatMap insL) w7 by rw [HTK.out]; rw [← HS.out, bs_data] at b7; exact b7)
        have HI7 := Lib.hid (HI6.out.of (c7.block mb (by have := HMW.out; omega)))
        have HK7 := Lib.hid (keeps_base HK6.out (by rw [HZ1.out]; exact c7))
        clear b7 c7
        go_wp2_with fail
        go_roundg (code.length - (k + 1))
        case measure => omega
        case rel => exact ⟨k + 1, by omega, by omega, by go_num, HB7, Lib.hid (HI7.out.mono (by omega)), HK7, by omega⟩
      · have hrunX : (Instr.lookup 93 (.map (some mb)) (.int .i64 op) true).run Tryz.prog XB = .ok (.tuple #[.agg #[.string ⟨#[]⟩, .int .i64 0, .string ⟨#[]⟩, .string ⟨#[]⟩], .bool false]) XB := hrun XB hmbX
        obtain ⟨XZ, hXZ⟩ : ∃ XZ, XB.alloc (.cells #[.string ⟨#[]⟩, .int .i64 0, .string ⟨#[]⟩, .string ⟨#[]⟩] 98) = XZ := ⟨_, rfl⟩
        have zi : XZ.heap.size = wr.heap.size + 2 := by rw [← hXZ]; simp; omega
        have BXZ : Below XB.heap.size XB XZ := by rw [← hXZ]; exact (Below.refl _ _).alloc (Nat.le_refl _) _
        have hrowz : XZ.heap[wr.heap.size + 1]? = some (.cells #[.string ⟨#[]⟩, .int .i64 0, .string ⟨#[]⟩, .string ⟨#[]⟩] 98 (0, 0)) := by rw [← hXZ, ← zb]; exact heap_alloc_new _ _
        have HBX2 := Lib.hid (HBXB.out.trans (BXZ.mono (by omega)))
        have hof := of_any op XZ (opEnv_later HE.out (HBW.out.trans (HBX2.out.mono HBW.out.size))) hop ⟨nm, sh, ps, rs⟩ _ HII.out rfl
        unfold Info.toV at hof
        dsimp only at hof
        obtain ⟨bb, hbb⟩ : ∃ bb, (opInfo op).isSome = bb := ⟨_, rfl⟩
        rw [hbb] at hof
        have HOF := Lib.hid hof
        have HROW := Lib.hid hrowz
        have HXZ := Lib.hid hXZ
        have HZI := Lib.hid zi
        have HBV := Lib.hid BXZ
        have HOWN := Lib.hid hown
        have HD := Lib.hid hD
        have HNK := Lib.hid hnk
        have HOP := Lib.hid hop
        clear hrun hXZ zi BXZ hrowz hown hD hnk hhas hof hbb hop
        go_upto_region 6 with fail
        rw [HXZ.out]
        clear hrunX hXB
        replace y0 := cell_later HBV.out y0
        replace y1 := cell_later HBV.out y1
        replace y2 := cell_later HBV.out y2
        replace y3 := cell_later HBV.out y3
        replace v0 := cell_later HBV.out v0
        go_wp2_with fail
        refine HOF.out.mono ?_
        rintro e w3 ⟨rfl, c3⟩
        have z3 := c3.size
        have hrow3 := (c3.block (wr.heap.size + 1) (by have := HZI.out; omega)).trans HROW.out
        have HROW3 := Lib.hid hrow3
        have HB3 := Lib.hid (HBX2.out.trans (c3.mono HBX2.out.size))
        replace y0 := cell_later c3 y0
        replace y1 := cell_later c3 y1
        replace y2 := cell_later c3 y2
        replace y3 := cell_later c3 y3
        replace v0 := cell_later c3 v0
        have HC3 := Lib.hid c3
        clear hrow3 c3
        have f0 := frozen_of_row w3 _ 0 _ _ HROW3.out
        have f1 := frozen_of_row w3 _ 1 _ _ HROW3.out
        have f2 := frozen_of_row w3 _ 2 _ _ HROW3.out
        have f3 := frozen_of_row w3 _ 3 _ _ HROW3.out
        have t0 := cell_of_row w3 _ 0 _ _ _ HROW3.out
        have t1 := cell_of_row w3 _ 1 _ _ _ HROW3.out
        have t2 := cell_of_row w3 _ 2 _ _ _ HROW3.out
        have t3 := cell_of_row w3 _ 3 _ _ _ HROW3.out
        have t0' : w3.cell? ⟨wr.heap.size + 1, 0, none⟩ = some (.string ⟨#[]⟩) := t0
        have t1' : w3.cell? ⟨wr.heap.size + 1, 1, none⟩ = some (.int .i64 0) := t1
        have t2' : w3.cell? ⟨wr.heap.size + 1, 2, none⟩ = some (.string ⟨#[]⟩) := t2
        have t3' : w3.cell? ⟨wr.heap.size + 1, 3, none⟩ = some (.string ⟨#[]⟩) := t3
        clear t0 t1 t2 t3
        obtain ⟨XS, hXS⟩ : ∃ XS, (((w3.setCell ⟨wr.heap.size + 1, 0, none⟩ (.string nm)).setCell ⟨wr.heap.size + 1, 1, none⟩ (.int .i64 sh)).setCell ⟨wr.heap.size + 1, 2, none⟩ (.string ps)).setCell ⟨wr.heap.size + 1, 3, none⟩ (.string rs) = XS := ⟨_, rfl⟩
        have hrows : XS.heap[wr.heap.size + 1]? = some (.cells #[.string nm, .int .i64 sh, .string ps, .string rs] 98 (0, 0)) := by
          rw [← hXS]
          exact box_set (box_set (box_set (box_set HROW3.out 0 _) 1 _) 2 _) 3 _
        have hks : Keeps (fun j => j = wr.heap.size + 1) w3 XS := by
          rw [← hXS]
          exact keeps_then (keeps_then (keeps_then (Keeps.setCell _ _ _ rfl) (Keeps.setCell _ _ _ rfl)) (Keeps.setCell _ _ _ rfl)) (Keeps.setCell _ _ _ rfl)
        have HBS := Lib.hid (show Below wr.heap.size wr XS by
          rw [← hXS]
          exact (((HB3.out.setCell (p := ⟨wr.heap.size + 1, 0, none⟩) (Nat.le_succ _) _).setCell (p := ⟨wr.heap.size + 1, 1, none⟩) (Nat.le_succ _) _).setCell (p := ⟨wr.heap.size + 1, 2, none⟩) (Nat.le_succ _) _).setCell (p := ⟨wr.heap.size + 1, 3, none⟩) (Nat.le_succ _) _)
        have HXS := Lib.hid hXS
        have HROWS := Lib.hid hrows
        have HKS := Lib.hid hks
        clear hXS hrows hks
        go_upto_region 8 with fail
        rw [HXS.out]
        clear f0 f1 f2 f3 t0' t1' t2' t3'
        replace y0 := HKS.out.cell y0 (by simp)
        replace y1 := HKS.out.cell y1 (by simp)
        replace y2 := HKS.out.cell y2 (by simp)
        replace y3 := HKS.out.cell y3 (by simp)
        replace v0 : XS.cell? ⟨vb, 0, none⟩ = some (.map (some mb)) := HKS.out.cell v0 (by
          have := HVL.out
          show ¬ vb = wr.heap.size + 1
          omega)
        have i0 := cell_of_row XS _ 0 _ _ _ HROWS.out
        have i1 := cell_of_row XS _ 1 _ _ _ HROWS.out
        have i2 := cell_of_row XS _ 2 _ _ _ HROWS.out
        have i3 := cell_of_row XS _ 3 _ _ _ HROWS.out
        obtain ⟨W5, hrun, hown, hgr⟩ := (ownsMap_of HOWN.out (HBS.out.block mb HMR.out)).update (val := .agg #[.string nm, .int .i64 sh, .string ps, .string rs]) keyed_int Tryz.underlying93 (by have := HNK.out; have := HKL.out; unfold maxLen; omega) (key_int op HOP.out) rfl
        have hok := infos_put HD.out op
        rw [HII.out] at hok
        have HK5 := Lib.hid (Keeps.grown (F := fun j => j = mb) hgr (fun j hj => (Option.some.inj hj).symm))
        have HIW := Lib.hid (show InfosAt W5 mb (K + k + 1) from ⟨_, _, hown, hok, by have := HNK.out; omega⟩)
        have HBDW := Lib.hid (show Bld 96 (w.heap.size + 1) (w.heap.size + 1) ((code.take k).flatMap insL) W5 from Bld.keep (Bld.later HBD.out HBS.out) (fun j hj hjl => HK5.out.block j hjl (fun e => by have := HMW.out; omega)))
        have HKW := Lib.hid (keeps_then (HKP.out.trans (Keeps.of_below (F := fun j => j = mb) HBS.out) (fun j hj => .inl hj)) HK5.out)
        have HZW := Lib.hid (show w.heap.size + 1 < W5.heap.size by have h1 := HK5.out.size; have h2 := HBS.out.size; omega)
        clear hown hgr hok
        have hmne : wr.heap.size ≠ mb := by have := HMR.out; omega
        have hmne2 : wr.heap.size + 1 ≠ mb := by have := HMR.out; omega
        have y0w := HK5.out.cell y0 hmne
        have y1w := HK5.out.cell y1 hmne
        have y2w := HK5.out.cell y2 hmne
        have y3w := HK5.out.cell y3 hmne
        have i0w := HK5.out.cell i0 hmne2
        have i1w := HK5.out.cell i1 hmne2
        have i2w := HK5.out.cell i2 hmne2
        have i3w := HK5.out.cell i3 hmne2
        clear hmne hmne2
        go_wp2_with fail
        refine (HIC.out _ (HBELOW.out _ HKW.out)).mono ?_
        rintro e w6 ⟨rfl, c6⟩
        have z6 := c6.size
        have HB6 := Lib.hid (HBDW.out.later c6)
        have HI6 := Lib.hid (HIW.out.later c6)
        have HK6 := Lib.hid (HKW.out.trans (Keeps.of_below (F := fun j => j = mb) c6) (fun j hj => .inl hj))
        have hz6 : w.heap.size + 1 < w6.heap.size := by have := HZW.out; omega
        clear c6 y0 y1 y2 y3 i0 i1 i2 i3 v0 hrun y0w y1w y2w y3w i0w i1w i2w i3w
        go_wp2_with fail
        refine (write_any bt_builder (w.heap.size + 1) (w.heap.size + 1) _ S w6 HB6.out (by rw [← HS.out, bs_size]; have h8 := HLN.out; have h9 := HLEN.out; omega) (by omega)).mono ?_
        rintro e w7 ⟨rfl, b7, c7, _⟩
        have z7 := c7.size
        have HB7 := Lib.hid (show Bld 96 (w.heap.size + 1) (w.heap.size + 1) ((code.take (k + 1)).flatMap insL) w7 by rw [HTK.out]; rw [← HS.out, bs_data] at b7; exact b7)
        have HI7 := Lib.hid (HI6.out.of (c7.block mb (by have := HMW.out; omega)))
        have HK7 := Lib.hid (keeps_base HK6.out (by rw [HZ1.out]; exact c7))
        clear b7 c7
        go_wp2_with fail
        go_roundg (code.length - (k + 1))
        case measure => omega
        case rel => exact ⟨k + 1, by omega, by omega, by go_num, HB7, Lib.hid (HI7.out.mono (by omega)), HK7, by omega⟩
    · have hltz : ¬ (k : Int) < (code.length : Int) := by omega
      obtain rfl : k = code.length := by omega
      have q1 : wr.cell? ⟨w.heap.size, 1, none⟩ = some (.string loc) := HKP.out.cell HQ1.out (by have := HMW.out; show ¬ w.heap.size = mb; omega)
      have HTK := Lib.hid (show code.take code.length = code from List.take_length)
      have hcall := locals_any loc wr HLOC.out
      obtain ⟨X, hX⟩ : ∃ X, bs (localsL loc.data.toList) = X := ⟨_, rfl⟩
      rw [hX] at hcall
      have HX2 := Lib.hid hX
      have hXs : X.size = (localsL loc.data.toList).length := by rw [← hX, bs_size]
      obtain ⟨Y, hY⟩ : ∃ Y, bs (code.flatMap insL) = Y := ⟨_, rfl⟩
      have hYs : Y.size = (code.flatMap insL).length := by rw [← hY, bs_size]
      have HY := Lib.hid hY
      have hz2 : ¬ 9223372036854775807 < X.size + Y.size := by have := HLEN.out; omega
      have HXY := Lib.hid (show X ++ Y = bs (localsL loc.data.toList ++ code.flatMap insL) by rw [← hX, ← hY, bs_app])
      have HXZ := Lib.hid (show (X ++ Y).size ≤ 9223372036854775000 by rw [HXY.out, bs_size, List.length_append]; have := HLEN.out; omega)
      clear hX hY hXs hYs
      go_wp2_with fail
      refine hcall.mono ?_
      rintro e w3 ⟨rfl, c3⟩
      have z3 := c3.size
      have HB3 := Lib.hid (Bld.later HBD.out c3)
      have HI3 := Lib.hid (HIN.out.later c3)
      have HK3 := Lib.hid (HKP.out.trans (Keeps.of_below (F := fun j => j = mb) c3) (fun j hj => .inl hj))
      clear c3
      go_wp2_with fail
      refine (string_any (w.heap.size + 1) (w.heap.size + 1) _ w3 HB3.out (by omega)).mono ?_
      rintro e w4 ⟨rfl, b4, c4, _⟩
      have z4 := c4.size
      have HI4 := Lib.hid (HI3.out.of (c4.block mb (by have := HMW.out; omega)))
      have HK4 := Lib.hid (keeps_base HK3.out (by rw [HZ1.out]; exact c4))
      clear b4 c4
      rw [HTK.out, show (⟨(code.flatMap insL).toArray⟩ : ByteArray) = Y from HY.out]
      go_wp2_with fail
      refine (text_any (X ++ Y) w4 HXZ.out).mono ?_
      rintro e w5 ⟨rfl, c5⟩
      have HI5 := Lib.hid (HI4.out.later c5)
      have HK5 := Lib.hid (HK4.out.trans (Keeps.of_below (F := fun j => j = mb) c5) (fun j hj => .inl hj))
      clear c5
      go_wp2_with fail
      go_ret
      exact ⟨by show Ending.returned (.string (bs (strL (X ++ Y)))) = _; rw [HXY.out]; unfold strL codeL; rw [bs_data], HI5.out, (Keeps.of_below (F := fun j => j = mb) HB1.out).trans HK5.out (fun j hj => .inl hj)⟩
end Go.Proofs.YtmfdabkmijbffaaGreatDoor.Enc

/- EncI: What package enc writes of one instruction. No condition beyond what each theorem names. -/
namespace Go.Proofs.YtmfdabkmijbffaaGreatDoor.Enc
open Go.RowKit Go.Maps Go.Proofs.YtmfdabkmijbffaaGreatDoor.Op Go.Proofs.YtmfdabkmijbffaaGreatDoor.Mod Go.Proofs.YtmfdabkmijbffaaGreatDoor.Leb Go.Proofs.YtmfdabkmijbffaaGreatDoor.Bytes
set_option linter.unusedVariables false
theorem rightI_len {i : Info} {op A B : Int} {zs : List Int} (h : rightI i op A B zs = true) : zs.length ≤ 4096 := by
  unfold rightI at h
  split at h
  · cases h
  split at h
  · cases h
  split at h
  · cases h
  · omega
theorem rightIns_len {x : InsL} (h : rightIns x = true) : x.labels.length ≤ 4096 := by
  unfold rightIns rightB at h
  split at h
  · cases h
  · exact rightI_len h
theorem right_known {x : InsL} (h : rightIns x = true) : (opInfo x.op).isSome = true := by
  unfold rightIns rightB at h
  split at h
  · cases h
  · rename_i i hi
    rw [hi]
    rfl
set_option maxRecDepth 100000 in
set_option maxHeartbeats 2000000 in
/-- Instr -/
theorem encI_any (x : InsL) (lv : Value) (w : World) (hE : OpEnv w) (hl : IntsAt w lv x.labels) (hop : (Lit.int .i64 x.op).wf = true) (ha : (Lit.int .i64 x.a).wf = true) :
    Calls Tryz.prog 14 #[.agg #[.int .i64 x.op, .int .i64 x.a, .int .i64 x.b, lv]] w fun e w' => e = .returned (.tuple #[.string (bs (encI x).1), .bool (encI x).2]) ∧ Below w.heap.size w w' := by
  obtain ⟨la, lc, rfl⟩ := intsAt_form hl
  have B1 : Below w.heap.size w (w.alloc (.cells #[.int .i64 x.op, .int .i64 x.a, .int .i64 x.b, .slice la x.labels.length lc] 33)) := (Below.refl _ _).alloc (Nat.le_refl _) _
  have hright := right_any x.op x.a x.b _ x.labels _ (opEnv_later hE B1) hop (intsAt_later hl B1)
  change Calls Tryz.prog 71 #[.agg #[.int .i64 x.op, .int .i64 x.a, .int .i64 x.b, .slice la x.labels.length lc]] _ (fun e w' => e = .returned (.bool (rightIns x)) ∧ _) at hright
  cases hr : rightIns x with
  | false =>
    rw [hr] at hright
    have HE := Lib.hid (show encI x = ([], false) by unfold encI; rw [hr, if_neg (by decide)])
    rw [HE.out]
    obtain ⟨op, a, b, zs⟩ := x
    dsimp only at hright ⊢
    clear hr hl hop ha HE
    have HR := Lib.hid hright
    clear hright
    go_enter Tryz.func14, Tryz.ntmps14
    go_wp2_with fail
    refine HR.out.mono ?_
    rintro e w2 ⟨rfl, c2⟩
    go_wp2_with fail
    go_ret2
    exact ⟨rfl, B1.trans (c2.mono B1.size)⟩
  | true =>
    rw [hr] at hright
    have HE := Lib.hid (show encI x = (insL x, true) by unfold encI; rw [hr, if_pos rfl])
    have hz := rightIns_len hr
    have HK := Lib.hid (right_known hr)
    have hic := fun (W : World) (hW : Below w.heap.size w W) => ins_code x la lc W (intsAt_later hl hW) ha (by omega)
    have hof := fun (W : World) (hW : Below w.heap.size w W) (i : Info) (hi : (opInfo x.op).getD zeroI = i) => of_any x.op W (opEnv_later hE hW) hop i true hi (right_known hr)
    obtain ⟨i, hi⟩ : ∃ i, (opInfo x.op).getD zeroI = i := ⟨_, rfl⟩
    replace hof := fun (W : World) (hW : Below w.heap.size w W) => hof W hW i hi
    rw [hi] at hic
    obtain ⟨nm, sh, ps, rs⟩ := i
    unfold Info.toV at hic hof
    dsimp only at hic hof
    rw [HE.out]
    obtain ⟨S, hS⟩ : ∃ S, bs (insL x) = S := ⟨_, rfl⟩
    rw [hS] at hic ⊢
    obtain ⟨op, a, b, zs⟩ := x
    dsimp only at hright hic hof ⊢
    have HR := Lib.hid hright
    have HIC := Lib.hid hic
    have HOF := Lib.hid hof
    obtain ⟨W1, hW1⟩ : ∃ W1, w.alloc (.cells #[.int .i64 op, .int .i64 a, .int .i64 b, .slice la zs.length lc] 33) = W1 := ⟨_, rfl⟩
    dsimp only at B1
    rw [hW1] at HR B1
    have y0 : W1.cell? ⟨w.heap.size, 0, none⟩ = some (.int .i64 op) := by rw [← hW1]; simp
    have y1 : W1.cell? ⟨w.heap.size, 1, none⟩ = some (.int .i64 a) := by rw [← hW1]; simp
    have y2 : W1.cell? ⟨w.heap.size, 2, none⟩ = some (.int .i64 b) := by rw [← hW1]; simp
    have y3 : W1.cell? ⟨w.heap.size, 3, none⟩ = some (.slice la zs.length lc) := by rw [← hW1]; simp
    have HW1 := Lib.hid hW1
    have HB1 := Lib.hid B1
    clear hr hl hop ha HE hright hic hof hi hS hz HK hE B1 hW1
    go_enter Tryz.func14, Tryz.ntmps14
    go_upto_region 1 with fail
    rw [HW1.out]
    go_wp2_with fail
    refine HR.out.mono ?_
    rintro e w2 ⟨rfl, c2⟩
    replace y0 := cell_later c2 y0
    replace y1 := cell_later c2 y1
    replace y2 := cell_later c2 y2
    replace y3 := cell_later c2 y3
    have HB2 := Lib.hid (HB1.out.trans (c2.mono HB1.out.size))
    clear c2
    go_wp2_with fail
    refine (HOF.out w2 HB2.out).mono ?_
    rintro e w3 ⟨rfl, c3⟩
    replace y0 := cell_later c3 y0
    replace y1 := cell_later c3 y1
    replace y2 := cell_later c3 y2
    replace y3 := cell_later c3 y3
    have HB3 := Lib.hid (HB2.out.trans (c3.mono HB2.out.size))
    clear c3
    go_upto_region 4 with fail
    obtain ⟨W4, hW4⟩ : ∃ W4, w3.alloc (.cells #[.string nm, .int .i64 sh, .string ps, .string rs] 98) = W4 := ⟨_, rfl⟩
    have BX : Below w3.heap.size w3 W4 := by rw [← hW4]; exact (Below.refl _ _).alloc (Nat.le_refl _) _
    have hrow : W4.heap[w3.heap.size]? = some (.cells #[.string nm, .int .i64 sh, .string ps, .string rs] 98 (0, 0)) := by rw [← hW4]; exact heap_alloc_new _ _
    rw [hW4]
    replace y0 := cell_later BX y0
    replace y1 := cell_later BX y1
    replace y2 := cell_later BX y2
    replace y3 := cell_later BX y3
    have i0 := cell_of_row W4 _ 0 _ _ _ hrow
    have i1 := cell_of_row W4 _ 1 _ _ _ hrow
    have i2 := cell_of_row W4 _ 2 _ _ _ hrow
    have i3 := cell_of_row W4 _ 3 _ _ _ hrow
    have HB4 := Lib.hid (HB3.out.trans (BX.mono HB3.out.size))
    clear hW4 BX hrow
    go_wp2_with fail
    refine (HIC.out W4 HB4.out).mono ?_
    rintro e w5 ⟨rfl, c5⟩
    have HB5 := Lib.hid (HB4.out.trans (c5.mono HB4.out.size))
    clear c5
    go_wp2_with fail
    go_ret2
    exact ⟨rfl, HB5.out⟩
end Go.Proofs.YtmfdabkmijbffaaGreatDoor.Enc
