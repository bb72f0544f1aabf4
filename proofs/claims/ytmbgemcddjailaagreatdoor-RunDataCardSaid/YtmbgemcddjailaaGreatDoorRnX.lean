/-
  RunX, RunGl, RunY in one.
-/
import Derived.Test.YtmbgemcddjailaaGreatDoorRnG
import Derived.Test.YtmbgemcddjailaaGreatDoorRnD
import Derived.Deep.RegionHeld3
/- RunX: A Call, told by the states that it goes through. No condition beyond what each theorem names. -/
namespace Go.Proofs.YtmbgemcddjailaaGreatDoor.Run
open Go.RowKit Go.Maps Go.Proofs.YtmbgemcddjailaaGreatDoor.Op Go.Proofs.YtmbgemcddjailaaGreatDoor.Mod
set_option linter.unusedVariables false
set_option linter.unusedSimpArgs false
/-- a thread on its way, in a world behind the call's -/
def RunI (w : World) (K : Mk) (E : Tc) (tb : Nat) (gs : List Nat) (t : Th) (W : World) : Prop := ∃ x, SAt W w.heap.size tb K gs E x t ∧ Keeps K.foot w W
/-- what a Call leaves -/
def CallZ (w : World) (K : Mk) (gs l : List Nat) (W : World) (sv : Value) : Prop := W.ownsRow w.heap.size 22 1 sv l.length (natsV l) ∧ MAt W w.heap.size K gs ∧ Keeps K.foot w W
theorem runI_step {w W W' : World} {K : Mk} {E : Tc} {tb : Nat} {gs gs' : List Nat} {t t' : Th} {x : Tx} (h : SAt W w.heap.size tb K gs E x t) (hk : Keeps K.foot w W) (u : SUpd W w.heap.size tb K gs' E x t' W') : RunI w K E tb gs' t' W' := by
  obtain ⟨x', h1, _, h3⟩ := u
  exact ⟨x', h1, hk.trans h3 (fun j hj => hj.elim (fun hx => .inr (h.th.foot_lt j hx).1) .inl)⟩
theorem callZ_later {w W W' : World} {K : Mk} {gs l : List Nat} {sv : Value} (h : CallZ w K gs l W sv) (hb : Below W.heap.size W W') : CallZ w K gs l W' sv :=
  ⟨ownsRow_of h.1 (fun j hj => hb.block j (h.1.lt j hj).2), h.2.1.later hb, h.2.2.trans (Keeps.of_below hb) (fun j hj => .inl hj)⟩
/-- what a Call is asked of -/
structure Ask (w : World) (K : Mk) (gs : List Nat) (f : Nat) (F : FuncP) (T : FT) (av : List Nat) (fuel ab ao : Nat) : Prop where
  ma : MAt w w.heap.size K gs
  hF : K.m.funcs[f]? = some F
  hT : ∃ i : Nat, F.ty = (i : Int) ∧ K.m.types[i]? = some T
  hP : T.params.size = av.length
  h0 : 0 < av.length
  hsm : av.length ≤ 1000
  has : ∀ a ∈ av, a < 18446744073709551616
  hfu : fuel ≤ 1000000000
  hL : F.locals.size ≤ 10000
  hR : T.results.size ≤ 10
  hm1 : K.m.funcs.length ≤ 100000
  hm2 : K.m.types.length ≤ 100000
  harg : ∀ j (a : Nat), av[j]? = some a → w.cell? ⟨ab, ao + j, none⟩ = some (.int .u64 (a : Int))
def startT (F : FuncP) (T : FT) (av : List Nat) (fuel : Nat) : Th := ⟨[], 0, locF T.params.data.toList av (av.length + F.locals.size) av.length, [], fuel, 0⟩
/-- what is known of a frame -/
def Of (K : Mk) (F : FuncP) (T : FT) (E : Tc) : Prop := E.height = 0 ∧ E.many = T.results.size ∧ CodeAt K.w0 E.cv F.code
abbrev StepTo (B tb : Nat) (K : Mk) (E : Tc) (gs gs' : List Nat) (t t' : Th) : Prop := ∀ W x, SAt W B tb K gs E x t → Calls Tryz.prog 21 #[.pointer (some ⟨tb, 0, none⟩)] W fun e W' => e = .returned (.tuple #[]) ∧ SUpd W B tb K gs' E x t' W'
set_option maxHeartbeats 1000000 in
theorem call_run (w : World) (K : Mk) (gs : List Nat) (f : Nat) (F : FuncP) (T : FT) (av : List Nat) (fuel ab ao ac : Nat) (hA : Ask w K gs f F T av fuel ab ao) (N : Nat) (S : Nat → Th) (G : Nat → List Nat) (gsF l : List Nat) (left : Nat)
    (hS0 : S 0 = startT F T av fuel) (hG0 : G 0 = gs) (he : ∀ k, k ≤ N → (S k).e = 0) (hstep : ∀ E, Of K F T E → ∀ B tb k, k < N → StepTo B tb K E (G k) (G (k + 1)) (S k) (S (k + 1)))
    (hfin : ∀ E, Of K F T E → ∀ B tb W x, SAt W B tb K (G N) E x (S N) → Calls Tryz.prog 21 #[.pointer (some ⟨tb, 0, none⟩)] W fun e W' => e = .returned (.tuple #[]) ∧ Fin W B tb K gsF E x l left W') :
    Calls Tryz.prog 7 #[.pointer (some ⟨K.R, 0, none⟩), .int .i64 (f : Int), .slice (some ⟨ab, ao, none⟩) av.length ac, .int .i64 (fuel : Int)] w fun e w' => ∃ sv, e = .returned (.tuple #[sv, .int .i64 (left : Int), .int .i64 0]) ∧ CallZ w K gsF l w' sv := by
  obtain ⟨i, hi, hT⟩ := hA.hT
  have h := call_any w K gs hA.ma f F hA.hF i hi T hT av hA.hP hA.h0 hA.hsm hA.has fuel hA.hfu hA.hL hA.hR hA.hm1 hA.hm2 ab ao ac hA.harg (N + 1) 0 (left : Int) (CallZ w K gsF l) (fun W W' sv h hb => callZ_later h hb) (fun tb w3 E x hS h1 h2 h3 hb => by
    refine ⟨fun k W => if k ≤ N then RunI w K E tb (G k) (S k) W else (∃ sv, DoneAt W w.heap.size tb E.mv sv l left) ∧ MAt W w.heap.size K gsF ∧ Keeps K.foot w W, ?_, fun k hk W hI => ?_, fun W hI => ?_⟩
    · dsimp only
      rw [if_pos (Nat.zero_le _), hS0, hG0]
      exact ⟨x, hS, Keeps.of_below hb⟩
    · dsimp only at hI ⊢
      rw [if_pos (by omega)] at hI
      obtain ⟨x1, hs, hkp⟩ := hI
      have hc := hs.th.cells
      rw [he k (by omega)] at hc
      refine ⟨⟨hc.2.2.2.2, _, _, hc.2.2.1⟩, ?_⟩
      by_cases hkN : k < N
      · refine (hstep E ⟨h1, h2, h3⟩ w.heap.size tb k hkN W x1 hs).mono fun e W' hh => ⟨hh.1, ?_⟩
        rw [if_pos (by omega)]
        exact runI_step hs hkp hh.2
      · obtain rfl : k = N := by omega
        refine (hfin E ⟨h1, h2, h3⟩ w.heap.size tb W x1 hs).mono fun e W' hh => ⟨hh.1, ?_⟩
        rw [if_neg (by omega)]
        exact ⟨hh.2.1, hh.2.2.1, hkp.trans hh.2.2.2 (fun j hj => hj.elim (fun hx => .inr (hs.th.foot_lt j hx).1) .inl)⟩
    · dsimp only at hI
      rw [if_neg (by omega)] at hI
      obtain ⟨⟨sv, hd⟩, hm, hkp⟩ := hI
      obtain ⟨ca, cc, hbx⟩ := hd.box
      refine ⟨cell_of_row _ _ _ _ _ _ hbx, cell_of_row _ _ _ _ _ _ hbx, ⟨sv, cell_of_row _ _ _ _ _ _ hbx, hd.stk, hm, hkp⟩, fun _ => ⟨ca, cc, cell_of_row _ _ _ _ _ _ hbx⟩⟩)
  exact h
set_option maxHeartbeats 1000000 in
theorem call_stop (w : World) (K : Mk) (gs : List Nat) (f : Nat) (F : FuncP) (T : FT) (av : List Nat) (fuel ab ao ac : Nat) (hA : Ask w K gs f F T av fuel ab ao) (N : Nat) (S : Nat → Th) (G : Nat → List Nat) (er : Int) (her : er ≠ 0)
    (hS0 : S 0 = startT F T av fuel) (hG0 : G 0 = gs) (he : ∀ k, k < N → (S k).e = 0) (hN : (S N).e = er) (hstep : ∀ E, Of K F T E → ∀ B tb k, k < N → StepTo B tb K E (G k) (G (k + 1)) (S k) (S (k + 1))) :
    Calls Tryz.prog 7 #[.pointer (some ⟨K.R, 0, none⟩), .int .i64 (f : Int), .slice (some ⟨ab, ao, none⟩) av.length ac, .int .i64 (fuel : Int)] w fun e w' => e = .returned (.tuple #[.slice none 0 0, .int .i64 ((S N).fuel : Int), .int .i64 er]) ∧ MAt w' w.heap.size K (G N) ∧ Keeps K.foot w w' := by
  obtain ⟨i, hi, hT⟩ := hA.hT
  have h := call_any w K gs hA.ma f F hA.hF i hi T hT av hA.hP hA.h0 hA.hsm hA.has fuel hA.hfu hA.hL hA.hR hA.hm1 hA.hm2 ab ao ac hA.harg N er ((S N).fuel : Int) (fun W _ => MAt W w.heap.size K (G N) ∧ Keeps K.foot w W) (fun W W' sv h hb => ⟨h.1.later hb, h.2.trans (Keeps.of_below hb) (fun j hj => .inl hj)⟩) (fun tb w3 E x hS h1 h2 h3 hb => by
    refine ⟨fun k W => RunI w K E tb (G k) (S k) W, ?_, fun k hk W hI => ?_, fun W hI => ?_⟩
    · dsimp only
      rw [hS0, hG0]
      exact ⟨x, hS, Keeps.of_below hb⟩
    · dsimp only at hI ⊢
      obtain ⟨x1, hs, hkp⟩ := hI
      have hc := hs.th.cells
      rw [he k hk] at hc
      exact ⟨⟨hc.2.2.2.2, _, _, hc.2.2.1⟩, (hstep E ⟨h1, h2, h3⟩ w.heap.size tb k hk W x1 hs).mono fun e W' hh => ⟨hh.1, runI_step hs hkp hh.2⟩⟩
    · dsimp only at hI ⊢
      obtain ⟨x1, hs, hkp⟩ := hI
      have hc := hs.th.cells
      rw [hN] at hc
      exact ⟨hc.2.2.2.2, hc.2.2.2.1, ⟨_, hc.2.1, hs.ma, hkp⟩, fun h => absurd h her⟩)
  exact h.mono fun e w' ⟨sv, h1, h2⟩ => ⟨by rw [h1, resV_no her], h2⟩
set_option maxRecDepth 100000 in
set_option maxHeartbeats 1000000 in
/-- without fuel -/
theorem step_dry (B tb : Nat) (K : Mk) (E : Tc) (gs : List Nat) (t : Th) (hf : t.fuel = 0) : StepTo B tb K E gs gs t { t with e := 7 } := by
  intro w x h
  obtain ⟨_, _, c2, c3, c4⟩ := h.th.cells
  rw [hf] at c3
  have fz := h.th.frozen 4
  have hgl := h.th.gown.2
  have htl := h.th.lt
  have HS := Lib.hid h
  clear h hf
  go_enter Tryz.func21, Tryz.ntmps21
  go_wp2_with fail
  go_quiet (fail)
  obtain ⟨wd, hwd⟩ : ∃ wd, w.drewN nq = wd := ⟨_, rfl⟩
  have bd : Below w.heap.size w wd := by rw [← hwd]; exact ⟨rfl, rfl, rfl, Nat.le_refl _, fun _ _ => rfl⟩
  rw [hwd]
  have c3 := cell_later bd c3
  have c4 := cell_later bd c4
  have hs := HS.out.th.later bd
  have fz := hs.frozen 4
  have U := Lib.hid (SUpd.of HS.out (Upd.after bd (hs.setE 7)))
  clear hwd bd hs c2
  go_wp2_with fail
  first | go_end0 | refine bodyPost_ret (results_none rfl _ _ _) rfl ?_
  exact ⟨rfl, U.out⟩
end Go.Proofs.YtmbgemcddjailaaGreatDoor.Run

/- RunGl: What simple does with globals. No condition beyond what each theorem names. -/
namespace Go.Proofs.YtmbgemcddjailaaGreatDoor.Run
open Go.RowKit Go.Maps Go.Proofs.YtmbgemcddjailaaGreatDoor.Op Go.Proofs.YtmbgemcddjailaaGreatDoor.Mod
set_option linter.unusedVariables false
set_option linter.unusedSimpArgs false
theorem ma_lt {w : World} {B : Nat} {K : Mk} {gs : List Nat} (h : MAt w B K gs) : K.R < w.heap.size := Nat.lt_of_lt_of_le h.lt.2 h.wB
set_option maxRecDepth 100000 in
set_option maxHeartbeats 2000000 in
theorem simple_35 (w : World) (B tb : Nat) (K : Mk) (gs : List Nat) (E : Tc) (x : Tx) (t : Th) (h : SAt w B tb K gs E x t) (hS : t.stack.length < 4096) (i : Nat) (n : Nat) (hn : gs[i]? = some n) (hl : gs.length < 3000000000000) (b : Int) (la : Option Addr) (ln lc : Nat) :
    Calls Tryz.prog 44 #[.pointer (some ⟨tb, 0, none⟩), .pointer (some ⟨E.g, 0, none⟩), .agg #[.int .i64 35, .int .i64 (i : Int), .int .i64 b, .slice la ln lc]] w fun e w' => e = .returned (.bool true) ∧ SUpd w B tb K gs E x { t with stack := t.stack ++ [n] } w' := by
  obtain ⟨a, ha⟩ : ∃ a : Int, a = (i : Int) := ⟨_, rfl⟩
  rw [← ha]
  have B0 : Below w.heap.size w (w.alloc (insB 35 a b la ln lc)) := (Below.refl _ _).alloc (Nat.le_refl _) _
  have HH := Lib.hid h
  obtain ⟨W0, hW0⟩ : ∃ W0, w.alloc (insB 35 a b la ln lc) = W0 := ⟨_, rfl⟩
  rw [hW0] at B0
  have r0 : W0.cell? ⟨w.heap.size, 0, none⟩ = some (.int .i64 35) := by rw [← hW0, World.cell?_alloc_at _ _ _ _ rfl]; rfl
  have r1 : W0.cell? ⟨w.heap.size, 1, none⟩ = some (.int .i64 a) := by rw [← hW0, World.cell?_alloc_at _ _ _ _ rfl]; rfl
  have HW0 := Lib.hid hW0
  have HB0 := Lib.hid B0
  have hil := (List.getElem?_eq_some_iff.1 hn).1
  obtain ⟨la0, cap, hx, hcap, hform⟩ := nats_form (h.ma.later B0).glob
  obtain ⟨lb, rfl, _, hlb, hat, _⟩ := hform (by omega)
  have ct := hat i n hn
  have g3 := (h.ma.later B0).cells.2.2.2.2.2.2.2.2.1
  rw [hx] at g3
  have p0 := (h.th.later B0).cells.1
  rw [h.mv] at p0
  have hgl : K.R < W0.heap.size := Nat.lt_of_lt_of_le (ma_lt h.ma) B0.size
  have hi0 : (0 : Int) ≤ (i : Int) := by omega
  have hi1 : (i : Int) < (gs.length : Int) := by omega
  have HP := Lib.hid (push_any n W0.drew B tb E x t ((h.th.later B0).later (Below.refl _ _).drew) (Nat.le_trans h.ma.wB B0.size) hS)
  rw [ha] at r1 HW0 ⊢
  clear h hS B0 hW0 ha hn hil hx hcap hform hat
  go_enter Tryz.func44, Tryz.ntmps44
  go_upto_region 1 with fail
  rw [HW0.out]
  go_wp2_with fail
  go_still_tail 12, (by kernel_rfl)
  change wpList _ _ _ _ _ W0.drew
  obtain ⟨wd, hwd⟩ : ∃ wd, W0.drew = wd := ⟨_, rfl⟩
  have bd : Below W0.heap.size W0 wd := by rw [← hwd]; exact (Below.refl _ _).drew
  have HBD := Lib.hid bd
  rw [hwd] at HP ⊢
  have ct := cell_later bd ct
  have g3 := cell_later bd g3
  have r1 := cell_later bd r1
  have p0 := cell_later bd p0
  clear hwd bd
  go_wp2_with fail
  refine HP.out.mono ?_
  rintro e w1 ⟨rfl, u1⟩
  have U1 := Lib.hid u1
  clear u1 HP r0 r1 ct g3 p0
  go_wp2_with fail
  go_ret
  exact ⟨rfl, SUpd.of HH.out (Upd.after (HB0.out.trans (HBD.out.mono HB0.out.size)) U1.out)⟩
theorem SUpd.after {w wA w' : World} {B tb : Nat} {K : Mk} {gs : List Nat} {E : Tc} {x : Tx} {t : Th} (b : Below w.heap.size w wA) (u : SUpd wA B tb K gs E x t w') : SUpd w B tb K gs E x t w' := by
  obtain ⟨x', s', f', k'⟩ := u
  exact ⟨x', s', fun j hj => (f' j hj).imp id (Nat.le_trans b.size), (Keeps.of_below b).trans k' (fun j hj => .inl hj)⟩
abbrev HeldS (tb r gb gl gc i : Nat) (K : Mk) (W : World) : Prop := W.cell? ⟨tb, 0, none⟩ = some (.pointer (some ⟨K.R, 0, none⟩)) ∧ W.cell? ⟨K.R, 8, none⟩ = some (.slice (some ⟨gb, 0, none⟩) gl gc) ∧ W.cell? ⟨r, 1, none⟩ = some (.int .i64 (i : Int)) ∧ (∃ v, W.cell? ⟨gb, i, none⟩ = some v) ∧ W.frozen? ⟨gb, i, none⟩ = false
theorem heldS_of {W : World} {B tb r gb gc i : Nat} {K : Mk} {gs : List Nat} {E : Tc} {x : Tx} {t : Th} (s : SAt W B tb K gs E x t) (hx : K.gv = .slice (some ⟨gb, 0, none⟩) gs.length gc) (hi : i < gs.length) (hr : W.cell? ⟨r, 1, none⟩ = some (.int .i64 (i : Int))) : HeldS tb r gb gs.length gc i K W := by
  have g := s.ma.glob
  rw [hx] at g
  refine ⟨by rw [s.th.cells.1, s.mv], by rw [s.ma.cells.2.2.2.2.2.2.2.2.1, hx], hr, ?_, g.frozenAt i⟩
  rw [g.cellAt i (by omega)]
  exact ⟨_, List.getElem?_eq_getElem (by simp [natsV]; omega)⟩
set_option maxRecDepth 100000 in
set_option maxHeartbeats 4000000 in
theorem simple_36 (w : World) (B tb : Nat) (KM : Mk) (gs : List Nat) (E : Tc) (x : Tx) (t : Th) (h : SAt w B tb KM gs E x t) (l0 : List Nat) (n : Nat) (hs : t.stack = l0 ++ [n]) (hS : l0.length < 3000000000000) (i : Nat) (hil : i < gs.length) (hl : gs.length < 3000000000000) (b : Int) (la : Option Addr) (ln lc : Nat) :
    Calls Tryz.prog 44 #[.pointer (some ⟨tb, 0, none⟩), .pointer (some ⟨E.g, 0, none⟩), .agg #[.int .i64 36, .int .i64 (i : Int), .int .i64 b, .slice la ln lc]] w fun e w' => e = .returned (.bool true) ∧ SUpd w B tb KM (gs.set i n) E x { t with stack := l0 } w' := by
  obtain ⟨a, ha⟩ : ∃ a : Int, a = (i : Int) := ⟨_, rfl⟩
  rw [← ha]
  have B0 : Below w.heap.size w (w.alloc (insB 36 a b la ln lc)) := (Below.refl _ _).alloc (Nat.le_refl _) _
  have HH := Lib.hid h
  obtain ⟨W0, hW0⟩ : ∃ W0, w.alloc (insB 36 a b la ln lc) = W0 := ⟨_, rfl⟩
  rw [hW0] at B0
  have r0 : W0.cell? ⟨w.heap.size, 0, none⟩ = some (.int .i64 36) := by rw [← hW0, World.cell?_alloc_at _ _ _ _ rfl]; rfl
  have r1 : W0.cell? ⟨w.heap.size, 1, none⟩ = some (.int .i64 a) := by rw [← hW0, World.cell?_alloc_at _ _ _ _ rfl]; rfl
  have HW0 := Lib.hid hW0
  have HB0 := Lib.hid B0
  obtain ⟨ga, gc, hx, hcap, hform⟩ := nats_form (h.ma.later B0).glob
  obtain ⟨gb, rfl, _, _, _, _⟩ := hform (by omega)
  have hi0 : (0 : Int) ≤ a := by omega
  have hi1 : a < (gs.length : Int) := by omega
  have HX := Lib.hid hx
  have HA := Lib.hid ha
  have HSS := Lib.hid hs
  have HSL := Lib.hid hS
  have HIL := Lib.hid hil
  have hrw : w.heap.size < W0.heap.size := World.block_lt_of_cell? _ _ r1
  have hsz : a.toNat = i := by omega
  have n1 : gb ≠ tb := fun e => by
    have h1 := h.ma.glt gb (by rw [hx]; rfl)
    have h2 := h.th.low
    omega
  have n2 : gb ≠ KM.R := fun e => kind_ne h.ma.glob h.ma.box (by decide) (by rw [hx]; exact congrArg some e)
  have n3 : gb ≠ w.heap.size := fun e => by
    have h1 := h.ma.glt gb (by rw [hx]; rfl)
    have h2 := h.ma.wB
    omega
  have R1 := Lib.hid r1
  clear h hS B0 hW0 ha hx hcap hform hs hil
  go_enter Tryz.func44, Tryz.ntmps44
  go_upto_region 1 with fail
  rw [HW0.out]
  go_upto_region 19 with fail
  obtain ⟨V0, hV0⟩ : ∃ V, W0.drew = V := ⟨_, rfl⟩
  have BV := Lib.hid (show Below W0.heap.size W0 V0 by rw [← hV0]; exact (Below.refl _ _).drew)
  have HV := Lib.hid (show SAt V0 B tb KM gs E x t from have b1 := HB0.out.trans (BV.out.mono HB0.out.size); ⟨HH.out.th.later b1, HH.out.ma.later b1, HH.out.mv⟩)
  have RV := Lib.hid (cell_later BV.out R1.out)
  rw [HA.out] at RV
  have HZ := Lib.hid (heldS_of HV.out HX.out HIL.out RV.out)
  rw [HA.out] at hi0 hi1 ⊢
  clear r0 r1
  refine wp_region_held_drew (S := HeldS tb w.heap.size gb gs.length gc i KM) (by kernel_rfl) (by rw [hV0]; exact HZ.out) (fun hHeld => ?_)
  rw [hV0] at hHeld ⊢
  clear hV0
  refine ty 0 (some 91) (h := ?_)
  try simp only [zpA, zpB, zpC, zpD, zpE]
  refine ty 1 (some 92) (h := ?_)
  try simp only [zpA, zpB, zpC, zpD, zpE]
  refine ty 2 (some 93) (h := ?_)
  try simp only [zpA, zpB, zpC, zpD, zpE]
  refine ty 3 (some 94) (h := ?_)
  try simp only [zpA, zpB, zpC, zpD, zpE]
  refine ty 4 (some 95) (h := ?_)
  try simp only [zpA, zpB, zpC, zpD, zpE]
  refine ty 5 (some 96) (h := ?_)
  try simp only [zpA, zpB, zpC, zpD, zpE]
  refine ty 6 (some 97) (h := ?_)
  try simp only [zpA, zpB, zpC, zpD, zpE]
  refine ty 7 (some 98) (h := ?_)
  try simp only [zpA, zpB, zpC, zpD, zpE]
  refine ty 8 (some 99) (h := ?_)
  try simp only [zpA, zpB, zpC, zpD, zpE]
  refine ty 9 (some 100) (h := ?_)
  try simp only [zpA, zpB, zpC, zpD, zpE]
  refine wpAnyH_ready (rs := [10]) (by kernel_rfl) (by simp) ?_
  refine (AllReadyH.cons (o := _) rfl (fun K hK => ?_) AllReadyH.nil)
  go_simp
  go_at_call 76
  refine (pop_any V0 B tb E x t HV.out.th l0 n HSS.out HSL.out).mono ?_
  rintro e V1 ⟨rfl, u1⟩
  have U1 := Lib.hid (SUpd.of HV.out u1)
  clear u1
  obtain ⟨x1, s1, f1, k1⟩ := U1.out
  have hS1 := heldS_of s1 HX.out HIL.out (k1.cell RV.out (fun hf => hf.elim (fun hx => absurd (HH.out.th.foot_lt _ hx).2 (Nat.lt_irrefl _)) (fun hx => absurd (Nat.lt_of_lt_of_le (HH.out.ma.glt _ hx) HH.out.ma.wB) (Nat.lt_irrefl _))))
  go_wp2_with fail
  refine hK.out _ _ hS1 (fun hHeld => ?_)
  clear hS1 s1 f1 k1
  clear hK K
  try simp only [zpA, zpB, zpC, zpD, zpE]
  refine ty 11 (some 102) (h := ?_)
  try simp only [zpA, zpB, zpC, zpD, zpE]
  refine wpAnyH_ready (rs := [12]) (by kernel_rfl) (by simp) ?_
  refine (AllReadyH.cons (o := _) rfl (fun K hK => ?_) AllReadyH.nil)
  obtain ⟨v9, y9⟩ := hHeld.2.2.2.1
  have z9 := hHeld.2.2.2.2
  obtain ⟨V2, hV2⟩ : ∃ V, V1.setCell ⟨gb, i, none⟩ (.int .u64 (n : Int)) = V := ⟨_, rfl⟩
  have U2 := Lib.hid (show SUpd V0 B tb KM (gs.set i n) E x { t with stack := l0 } V2 from SUpd.trans U1.out (fun x1 s1 => hV2 ▸ SUpd.glob s1 HX.out i n))
  have hS2 : HeldS tb w.heap.size gb gs.length gc i KM V2 := by rw [← hV2]; exact ⟨(World.cell?_setCell_other _ _ _ _ (by first | (simp; done) | (simp; omega))).trans hHeld.1, (World.cell?_setCell_other _ _ _ _ (by first | (simp; done) | (simp; omega))).trans hHeld.2.1, (World.cell?_setCell_other _ _ _ _ (by first | (simp; done) | (simp; omega))).trans hHeld.2.2.1, ⟨_, World.cell?_setCell_same _ _ _ y9⟩, (World.frozen?_setCell _ _ _ _).trans z9⟩
  go_simp
  try rw [hV2]
  refine hK.out _ _ hS2 (fun hHeld => ?_)
  clear hS2 hV2 y9 z9
  clear hK K
  try simp only [zpA, zpB, zpC, zpD, zpE]
  refine wpAnyH_done (by kernel_rfl) ?_ _
  clear hHeld
  go_wp2_with fail
  go_ret
  exact ⟨rfl, SUpd.after (HB0.out.trans (BV.out.mono HB0.out.size)) U2.out⟩
end Go.Proofs.YtmbgemcddjailaaGreatDoor.Run

/- RunY: One step of a thread by its code: constants, locals, globals, a function's end. No condition beyond what each theorem names. -/
namespace Go.Proofs.YtmbgemcddjailaaGreatDoor.Run
open Go.RowKit Go.Maps Go.Proofs.YtmbgemcddjailaaGreatDoor.Op Go.Proofs.YtmbgemcddjailaaGreatDoor.Mod
set_option linter.unusedVariables false
theorem SUpd.join {w w1 w2 : World} {B tb : Nat} {K : Mk} {gs : List Nat} {E : Tc} {x x1 : Tx} {t : Th} (f1 : ∀ j, x1.foot tb E j → x.foot tb E j ∨ w.heap.size ≤ j) (k1 : Keeps (fun j => x.foot tb E j ∨ K.foot j) w w1) (u : SUpd w1 B tb K gs E x1 t w2) : SUpd w B tb K gs E x t w2 := by
  obtain ⟨x2, s2, f2, k2⟩ := u
  refine ⟨x2, s2, fun j hj => ?_, k1.trans k2 (fun j hj => ?_)⟩
  · rcases f2 j hj with h | h
    · exact f1 j h
    · exact .inr (Nat.le_trans k1.size h)
  · rcases hj with h | h
    · exact (f1 j h).imp .inl id
    · exact .inl (.inr h)
theorem Fin.join {w w1 w2 : World} {B tb : Nat} {K : Mk} {gs l : List Nat} {E : Tc} {x x1 : Tx} {fuel : Nat} (f1 : ∀ j, x1.foot tb E j → x.foot tb E j ∨ w.heap.size ≤ j) (k1 : Keeps (fun j => x.foot tb E j ∨ K.foot j) w w1) (u : Fin w1 B tb K gs E x1 l fuel w2) : Fin w B tb K gs E x l fuel w2 := by
  refine ⟨u.1, u.2.1, k1.trans u.2.2 (fun j hj => ?_)⟩
  rcases hj with h | h
  · exact (f1 j h).imp .inl id
  · exact .inl (.inr h)
/-- a step that simple does -/
theorem step_by {B tb : Nat} {K : Mk} {gs gs' : List Nat} {E : Tc} {t t' : Th} {n : Nat} {X : InsL} (hX : At K E t n X)
    (hn : ∀ W la ln lc, Calls Tryz.prog 43 #[.pointer (some ⟨tb, 0, none⟩), .pointer (some ⟨E.g, 0, none⟩), .int .i64 (t.at_ : Int), insV X (.slice la ln lc)] W fun e w' => e = .returned (.bool false) ∧ Below W.heap.size W w')
    (hs : ∀ W x la ln lc, SAt W B tb K gs E x (nextT t n) → Calls Tryz.prog 44 #[.pointer (some ⟨tb, 0, none⟩), .pointer (some ⟨E.g, 0, none⟩), insV X (.slice la ln lc)] W fun e w' => e = .returned (.bool true) ∧ SUpd W B tb K gs' E x t' w') : StepTo B tb K E gs gs' t t' := by
  intro w x h
  refine step_simple w B tb K gs E x t h n X hX (fun w' => SUpd w B tb K gs' E x t' w') ⟨fun W lv hI => ?_, fun W lv u hI => ?_⟩
  · obtain ⟨la, lc, rfl⟩ := intsAt_form hI
    exact hn W _ _ _
  · obtain ⟨la, lc, rfl⟩ := intsAt_form hI
    obtain ⟨x1, s1, f1, k1⟩ := u
    exact (hs W x1 _ _ _ s1).mono fun e w' hh => ⟨hh.1, SUpd.join f1 k1 hh.2⟩
section
variable {B tb : Nat} {K : Mk} {gs : List Nat} {E : Tc} {t : Th} {n : Nat} {op a b : Int} {l : List Int}
theorem step_66 (hX : At K E t n ⟨66, a, b, l⟩) (hS : t.stack.length < 4096) (v : Nat) (hv : IntKind.u64.wrap a = (v : Int)) : StepTo B tb K E gs gs t { nextT t n with stack := t.stack ++ [v] } :=
  step_by hX (fun W la ln lc => control_no_66 W _ _ _ _ _ _ _ _) (fun W x la ln lc h => simple_66 W B tb K gs E x _ h hS a b la ln lc v hv)
theorem step_32 (i : Nat) (hX : At K E t n ⟨32, (i : Int), b, l⟩) (hS : t.stack.length < 4096) (v : Nat) (hv : t.locals[i]? = some v) (hl : t.locals.length < 3000000000000) : StepTo B tb K E gs gs t { nextT t n with stack := t.stack ++ [v] } :=
  step_by hX (fun W la ln lc => control_no_32 W _ _ _ _ _ _ _ _) (fun W x la ln lc h => simple_32 W B tb K gs E x _ h hS i v hv hl b la ln lc)
theorem step_35 (i : Nat) (hX : At K E t n ⟨35, (i : Int), b, l⟩) (hS : t.stack.length < 4096) (v : Nat) (hv : gs[i]? = some v) (hl : gs.length < 3000000000000) : StepTo B tb K E gs gs t { nextT t n with stack := t.stack ++ [v] } :=
  step_by hX (fun W la ln lc => control_no_35 W _ _ _ _ _ _ _ _) (fun W x la ln lc h => simple_35 W B tb K gs E x _ h hS i v hv hl b la ln lc)
theorem step_36 (i : Nat) (hX : At K E t n ⟨36, (i : Int), b, l⟩) (l0 : List Nat) (v : Nat) (hs : t.stack = l0 ++ [v]) (hS : l0.length < 3000000000000) (hi : i < gs.length) (hl : gs.length < 3000000000000) : StepTo B tb K E gs (gs.set i v) t { nextT t n with stack := l0 } :=
  step_by hX (fun W la ln lc => control_no_36 W _ _ _ _ _ _ _ _) (fun W x la ln lc h => simple_36 W B tb K gs E x _ h l0 v hs hS i hi hl b la ln lc)
/-- a function's end -/
theorem step_end (hX : At K E t n ⟨11, a, b, l⟩) (hb : t.blocks = []) (hM : 0 < E.many) (hL : E.height + E.many ≤ t.stack.length) (hS : t.stack.length < 3000000000000) (he : t.e = 0) : ∀ W x, SAt W B tb K gs E x t → Calls Tryz.prog 21 #[.pointer (some ⟨tb, 0, none⟩)] W fun e W' => e = .returned (.tuple #[]) ∧ Fin W B tb K gs E x (unwindL t.stack E.height E.many) n W' := by
  intro w x h
  refine step_control w B tb K gs E x t h n _ hX (fun w' => Fin w B tb K gs E x (unwindL t.stack E.height E.many) n w') (fun W lv u hI => ?_)
  obtain ⟨la, lc, rfl⟩ := intsAt_form hI
  obtain ⟨x1, s1, f1, k1⟩ := u
  exact (control_end W B tb K gs E x1 (nextT t n) s1 hb hM hL hS he _ _ _ _ _ _).mono fun e w' hh => ⟨hh.1, Fin.join f1 k1 hh.2⟩
end
/-- where a frame stands -/
theorem at_of {K : Mk} {F : FuncP} {T : FT} {E : Tc} (h : Of K F T E) {t : Th} {n : Nat} {X : InsL} (hf : t.fuel = n + 1) (hn : n ≤ 1000000000) (hl : F.code.length ≤ 1000000) (hx : F.code[t.at_]? = some X) : At K E t n X := ⟨hf, hn, F.code, h.2.2, hl, hx⟩
end Go.Proofs.YtmbgemcddjailaaGreatDoor.Run
