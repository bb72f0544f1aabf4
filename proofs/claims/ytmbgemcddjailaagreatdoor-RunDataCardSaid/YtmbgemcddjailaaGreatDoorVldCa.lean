/-
  VldF, VldReach, VldG in one.
-/
import Derived.Test.YtmbgemcddjailaaGreatDoorVldBa
import Derived.Test.YtmbgemcddjailaaGreatDoorModRight
import Derived.Test.YtmbgemcddjailaaGreatDoorVldPl
import Derived.Test.YtmbgemcddjailaaGreatDoorOpW
/- VldF: What the checker's methods do: global, callee. No condition beyond what each theorem names. -/
namespace Go.Proofs.YtmbgemcddjailaaGreatDoor.Vld
open Go.RowKit Go.Maps Go.Proofs.YtmbgemcddjailaaGreatDoor.Op Go.Proofs.YtmbgemcddjailaaGreatDoor.Mod
set_option linter.unusedVariables false
theorem byte_wrap (n : Int) : (((UInt8.ofNat (n % 256).toNat).toNat : Nat) : Int) = n % 256 := by
  have h1 : 0 ≤ n % 256 := Int.emod_nonneg _ (by decide)
  have h2 : n % 256 < 256 := Int.emod_lt_of_pos _ (by decide)
  rw [UInt8.toNat_ofNat']
  omega
theorem globalC_in {v : Vn} {c : Ck} {n : Nat} {set : Bool} {g : GlobP} (h : v.m.globals[n]? = some g) : globalC v n set c = (wantC c (g.mut_ || !set), [UInt8.ofNat (g.ty % 256).toNat]) := by
  unfold globalC
  rw [h]
theorem globalC_out {v : Vn} {c : Ck} {n : Nat} {set : Bool} (h : v.m.globals[n]? = none) : globalC v n set c = (badC c, []) := by
  unfold globalC
  rw [h]
set_option maxRecDepth 100000 in
set_option maxHeartbeats 2000000 in
theorem global_any (v : Vn) (n : Nat) (hn : n < 4294967296) (set : Bool) (w : World) (B cb : Nat) (E : Ce) (x : Cx) (c : Ck) (k : Nat) (h : CkAt w B cb E x c k) (hm : GlobsAt w E.g v.m.globals) :
    Calls Tryz.prog 111 #[.pointer (some ⟨cb, 0, none⟩), .int .i64 (n : Int), .bool set] w fun e w' => e = .returned (.string (strB (globalC v n set c).2)) ∧ Upd w B cb E x (globalC v n set c).1 k w' := by
  obtain ⟨_, _, _, c3, _, _, _⟩ := h.fixed
  obtain ⟨la, cap, hv, hle, hat⟩ := hm.form
  rw [hv] at c3
  obtain ⟨L, hL⟩ : ∃ L, v.m.globals.length = L := ⟨_, rfl⟩
  rw [hL] at c3 hle
  by_cases hlt : n < L
  · obtain ⟨gl, hg⟩ : ∃ gl, v.m.globals[n]? = some gl := ⟨_, List.getElem?_eq_getElem (by omega)⟩
    obtain ⟨r, hr, _, b, off, hla, hb, hc⟩ := hat n gl hg
    have hr2 : r = gl.cells := hr
    rw [hr2] at hc
    have d0 : w.cell? ⟨b, off + n * 3, none⟩ = some (.int .i64 gl.ty) := hc 0 _ rfl
    have d1 : w.cell? ⟨b, off + n * 3 + 1, none⟩ = some (.bool gl.mut_) := hc 1 _ rfl
    have d2 : w.cell? ⟨b, off + n * 3 + 2, none⟩ = some (.int .i64 gl.init) := hc 2 _ rfl
    rw [globalC_in hg]
    subst hla
    have H := Lib.hid h
    have hd : decide ((L : Int) ≤ (n : Int)) = false := decide_eq_false (by omega)
    have hi0 : (0 : Int) ≤ (n : Int) := by omega
    have hi1 : (n : Int) < (L : Int) := by omega
    obtain ⟨bt, hbt⟩ : ∃ bt, UInt8.ofNat (gl.ty % 256).toNat = bt := ⟨_, rfl⟩
    have hbw := byte_wrap gl.ty
    rw [hbt] at hbw ⊢
    have HBW := Lib.hid hbw
    obtain ⟨ok, hok⟩ : ∃ ok, (gl.mut_ || !set) = ok := ⟨_, rfl⟩
    rw [hok]
    obtain ⟨ty, mu, ini⟩ := gl
    dsimp only at d0 d1 d2 hok HBW
    have A0 := Lib.hid (h.later ((Below.refl _ _).alloc (Nat.le_refl _) (.cells #[.int .i64 ty, .bool mu, .int .i64 ini] 35)))
    have HX := Lib.hid (show ¬ x.foot cb E w.heap.size from fun hf => by have := (h.foot_lt _ hf).2; omega)
    clear h hm hat hv hg hr hr2 hc hbt hbw
    have hwant : Calls Tryz.prog 109 #[.pointer (some ⟨cb, 0, none⟩), .bool ok] (w.alloc (.cells #[.int .i64 ty, .bool mu, .int .i64 ini] 35)) fun e w' => e = .returned (.tuple #[]) ∧ Upd (w.alloc (.cells #[.int .i64 ty, .bool mu, .int .i64 ini] 35)) B cb E x (wantC c ok) k w' := want_any ok _ B cb E x c k A0.out
    have HW := Lib.hid hwant
    have Q0 := Lib.hid (show (w.alloc (.cells #[.int .i64 ty, .bool mu, .int .i64 ini] 35)).cell? ⟨w.heap.size, 0, none⟩ = some (.int .i64 ty) by simp)
    clear hwant
    have fin : ∀ W1, Upd (w.alloc (.cells #[.int .i64 ty, .bool mu, .int .i64 ini] 35)) B cb E x (wantC c ok) k W1 → W1.cell? ⟨w.heap.size, 0, none⟩ = some (.int .i64 ty) ∧ (convert 83 9 (.slice (some ⟨W1.heap.size, 0, none⟩) 1 1)).run Tryz.prog (W1.alloc (.cells #[.int .u8 (ty % 256)] 5)) = .ok (.string (strB [bt])) (W1.alloc (.cells #[.int .u8 (ty % 256)] 5)) ∧ Upd w B cb E x (wantC c ok) k (W1.alloc (.cells #[.int .u8 (ty % 256)] 5)) := fun W1 u => by
      refine ⟨?_, conv_one _ _ bt (by rw [World.cell?_alloc_at _ _ _ _ rfl, HBW.out]; rfl), (Upd.after ((Below.refl _ _).alloc (Nat.le_refl _) _) u).then_ ((Below.refl _ _).alloc (Nat.le_refl _) _)⟩
      obtain ⟨x1, a1, f1, k1⟩ := u
      exact k1.cell Q0.out HX.out
    have FIN := Lib.hid fin
    clear fin
    cases mu
    · cases set
      · obtain rfl : ok = true := hok.symm
        clear hok
        go_enter Tryz.func111, Tryz.ntmps111
        go_wp2_with fail
        refine HW.out.mono ?_
        rintro e W1 ⟨rfl, u1⟩
        obtain ⟨p0, hcv, uf⟩ := FIN.out W1 u1
        have UF := Lib.hid uf
        clear uf u1 d0 d1 d2 c3
        go_wp2_with fail
        go_ret
        exact ⟨rfl, UF.out⟩
      · obtain rfl : ok = false := hok.symm
        clear hok
        go_enter Tryz.func111, Tryz.ntmps111
        go_wp2_with fail
        refine HW.out.mono ?_
        rintro e W1 ⟨rfl, u1⟩
        obtain ⟨p0, hcv, uf⟩ := FIN.out W1 u1
        have UF := Lib.hid uf
        clear uf u1 d0 d1 d2 c3
        go_wp2_with fail
        go_ret
        exact ⟨rfl, UF.out⟩
    · obtain rfl : ok = true := hok.symm
      clear hok
      go_enter Tryz.func111, Tryz.ntmps111
      go_wp2_with fail
      refine HW.out.mono ?_
      rintro e W1 ⟨rfl, u1⟩
      obtain ⟨p0, hcv, uf⟩ := FIN.out W1 u1
      have UF := Lib.hid uf
      clear uf u1 d0 d1 d2 c3
      go_wp2_with fail
      go_ret
      exact ⟨rfl, UF.out⟩
  · rw [globalC_out (List.getElem?_eq_none (by omega))]
    obtain ⟨_, _, c2⟩ := h.cells
    have fz := h.frozen 12
    have HU := Lib.hid (h.setWrong true)
    have hd : decide ((L : Int) ≤ (n : Int)) = true := decide_eq_true (by omega)
    clear h hm hat hv
    go_enter Tryz.func111, Tryz.ntmps111
    go_wp2_with fail
    go_ret
    exact ⟨rfl, HU.out⟩
end Go.Proofs.YtmbgemcddjailaaGreatDoor.Vld

/- VldReach: What valid.reach answers. No condition beyond what each theorem names. -/
namespace Go.Proofs.YtmbgemcddjailaaGreatDoor.Vld
open Go.RowKit Go.Maps Go.Proofs.YtmbgemcddjailaaGreatDoor.Op Go.Proofs.YtmbgemcddjailaaGreatDoor.Mod
set_option linter.unusedVariables false
def reachL : List (Int × Int) := [(40, 2), (41, 3), (44, 0), (45, 0), (46, 1), (47, 1), (48, 0), (49, 0), (50, 1), (51, 1), (52, 2), (53, 2), (54, 2), (55, 3), (58, 0), (59, 1), (60, 0), (61, 1), (62, 2)]
def putR (D : DataW Value) (e : Int × Int) : DataW Value := D.put (.int .i64 e.1) (.held (.int .i64 e.2))
def reachD : DataW Value := reachL.foldl putR (.map [])
def lookR : List (Int × Int) → Int → Int
  | [], _ => 0
  | e :: r, c => if c = e.1 then e.2 else lookR r c
theorem isMap_putR {D : DataW Value} (h : IsMap D) (e : Int × Int) : IsMap (putR D e) := by
  obtain ⟨es, rfl⟩ := h
  exact ⟨_, rfl⟩
theorem isMap_foldR : ∀ (l : List (Int × Int)) {D : DataW Value}, IsMap D → IsMap (l.foldl putR D)
  | [], D, h => h
  | e :: l, D, h => isMap_foldR l (isMap_putR h e)
theorem at_look : ∀ (l : List (Int × Int)) (c : Int), (l.reverse.foldl putR (.map [])).atKey (.int .i64 c) (.held (.int .i64 0)) = .held (.int .i64 (lookR l c))
  | [], c => rfl
  | e :: l, c => by
    rw [List.reverse_cons, List.foldl_append]
    show (putR _ e).atKey _ _ = _
    unfold putR lookR
    by_cases h : c = e.1
    · rw [if_pos h, h]
      exact atKey_put_same (k := .int .i64 e.1) (isMap_foldR _ ⟨[], rfl⟩) (by simp [WideAt.IsKeyLit]) _ _
    · rw [if_neg h, atKey_put_other (fun he => h (by simpa using he))]
      exact at_look l c
theorem reach_at (c : Int) : reachD.atKey (.int .i64 c) (.held (.int .i64 0)) = .held (.int .i64 (lookR reachL.reverse c)) := by
  have h := at_look reachL.reverse c
  rw [List.reverse_reverse] at h
  exact h
theorem look_reach (c : Int) : lookR reachL.reverse c = reachOf c := by
  by_cases h : c ∈ ([40, 41, 44, 45, 46, 47, 48, 49, 50, 51, 52, 53, 54, 55, 58, 59, 60, 61, 62] : List Int)
  · simp only [List.mem_cons, List.not_mem_nil, or_false] at h
    rcases h with rfl | rfl | rfl | rfl | rfl | rfl | rfl | rfl | rfl | rfl | rfl | rfl | rfl | rfl | rfl | rfl | rfl | rfl | rfl <;> rfl
  · simp only [List.mem_cons, List.not_mem_nil, or_false, not_or] at h
    obtain ⟨h0, h1, h2, h3, h4, h5, h6, h7, h8, h9, h10, h11, h12, h13, h14, h15, h16, h17, h18⟩ := h
    have e1 : lookR reachL.reverse c = 0 := by
      simp only [reachL, List.reverse_cons, List.reverse_nil, List.nil_append, List.cons_append, lookR]
      simp [*]
    rw [e1]
    unfold reachOf
    simp [*]
theorem zero_i64 (w : World) : (zeroValue 2).run Tryz.prog w = .ok (.int .i64 0) w := by kernel_rfl
set_option maxRecDepth 100000 in
set_option maxHeartbeats 2000000 in
theorem reach_any (code : Int) (hc : (Lit.int .i64 code).wf = true) (w : World) : Calls Tryz.prog 112 #[.int .i64 code] w fun e w' => e = .returned (.int .i64 (reachOf code)) ∧ Below w.heap.size w w' := by
  rw [← look_reach]
  have HR := Lib.hid (reach_at code)
  have HC := Lib.hid hc
  obtain ⟨v, hv⟩ : ∃ v, lookR reachL.reverse code = v := ⟨_, rfl⟩
  rw [hv] at HR ⊢
  clear hc hv
  have hmm := @run_makeMap Tryz.prog
  have h0 := World.ownsMap_made w Tryz.prog 3 asIs
  have b0 : Below w.heap.size w (w.alloc (.map #[] 0)) := (Below.refl _ _).alloc (Nat.le_refl _) _
  go_enter Tryz.func112, Tryz.ntmps112
  go_wp2_with fail
  obtain ⟨w1, hrun, h1, g1⟩ := h0.update (val := .int .i64 2) keyed_int Tryz.underlying225 (by decide) (key_int 40 (by decide)) rfl
  have b1 := b0.grown g1 (by have := b0.size; omega) (fun k hk => by cases hk; exact Nat.le_refl _)
  clear h0 g1 b0
  rw [hrun]
  clear hrun
  go_wp2_with fail
  obtain ⟨w2, hrun, h2, g2⟩ := h1.update (val := .int .i64 3) keyed_int Tryz.underlying225 (by decide) (key_int 41 (by decide)) rfl
  have b2 := b1.grown g2 (by have := b1.size; omega) (fun k hk => by cases hk; exact Nat.le_refl _)
  clear h1 g2 b1
  rw [hrun]
  clear hrun
  go_wp2_with fail
  obtain ⟨w3, hrun, h3, g3⟩ := h2.update (val := .int .i64 0) keyed_int Tryz.underlying225 (by decide) (key_int 44 (by decide)) rfl
  have b3 := b2.grown g3 (by have := b2.size; omega) (fun k hk => by cases hk; exact Nat.le_refl _)
  clear h2 g3 b2
  rw [hrun]
  clear hrun
  go_wp2_with fail
  obtain ⟨w4, hrun, h4, g4⟩ := h3.update (val := .int .i64 0) keyed_int Tryz.underlying225 (by decide) (key_int 45 (by decide)) rfl
  have b4 := b3.grown g4 (by have := b3.size; omega) (fun k hk => by cases hk; exact Nat.le_refl _)
  clear h3 g4 b3
  rw [hrun]
  clear hrun
  go_wp2_with fail
  obtain ⟨w5, hrun, h5, g5⟩ := h4.update (val := .int .i64 1) keyed_int Tryz.underlying225 (by decide) (key_int 46 (by decide)) rfl
  have b5 := b4.grown g5 (by have := b4.size; omega) (fun k hk => by cases hk; exact Nat.le_refl _)
  clear h4 g5 b4
  rw [hrun]
  clear hrun
  go_wp2_with fail
  obtain ⟨w6, hrun, h6, g6⟩ := h5.update (val := .int .i64 1) keyed_int Tryz.underlying225 (by decide) (key_int 47 (by decide)) rfl
  have b6 := b5.grown g6 (by have := b5.size; omega) (fun k hk => by cases hk; exact Nat.le_refl _)
  clear h5 g6 b5
  rw [hrun]
  clear hrun
  go_wp2_with fail
  obtain ⟨w7, hrun, h7, g7⟩ := h6.update (val := .int .i64 0) keyed_int Tryz.underlying225 (by decide) (key_int 48 (by decide)) rfl
  have b7 := b6.grown g7 (by have := b6.size; omega) (fun k hk => by cases hk; exact Nat.le_refl _)
  clear h6 g7 b6
  rw [hrun]
  clear hrun
  go_wp2_with fail
  obtain ⟨w8, hrun, h8, g8⟩ := h7.update (val := .int .i64 0) keyed_int Tryz.underlying225 (by decide) (key_int 49 (by decide)) rfl
  have b8 := b7.grown g8 (by have := b7.size; omega) (fun k hk => by cases hk; exact Nat.le_refl _)
  clear h7 g8 b7
  rw [hrun]
  clear hrun
  go_wp2_with fail
  obtain ⟨w9, hrun, h9, g9⟩ := h8.update (val := .int .i64 1) keyed_int Tryz.underlying225 (by decide) (key_int 50 (by decide)) rfl
  have b9 := b8.grown g9 (by have := b8.size; omega) (fun k hk => by cases hk; exact Nat.le_refl _)
  clear h8 g9 b8
  rw [hrun]
  clear hrun
  go_wp2_with fail
  obtain ⟨w10, hrun, h10, g10⟩ := h9.update (val := .int .i64 1) keyed_int Tryz.underlying225 (by decide) (key_int 51 (by decide)) rfl
  have b10 := b9.grown g10 (by have := b9.size; omega) (fun k hk => by cases hk; exact Nat.le_refl _)
  clear h9 g10 b9
  rw [hrun]
  clear hrun
  go_wp2_with fail
  obtain ⟨w11, hrun, h11, g11⟩ := h10.update (val := .int .i64 2) keyed_int Tryz.underlying225 (by decide) (key_int 52 (by decide)) rfl
  have b11 := b10.grown g11 (by have := b10.size; omega) (fun k hk => by cases hk; exact Nat.le_refl _)
  clear h10 g11 b10
  rw [hrun]
  clear hrun
  go_wp2_with fail
  obtain ⟨w12, hrun, h12, g12⟩ := h11.update (val := .int .i64 2) keyed_int Tryz.underlying225 (by decide) (key_int 53 (by decide)) rfl
  have b12 := b11.grown g12 (by have := b11.size; omega) (fun k hk => by cases hk; exact Nat.le_refl _)
  clear h11 g12 b11
  rw [hrun]
  clear hrun
  go_wp2_with fail
  obtain ⟨w13, hrun, h13, g13⟩ := h12.update (val := .int .i64 2) keyed_int Tryz.underlying225 (by decide) (key_int 54 (by decide)) rfl
  have b13 := b12.grown g13 (by have := b12.size; omega) (fun k hk => by cases hk; exact Nat.le_refl _)
  clear h12 g13 b12
  rw [hrun]
  clear hrun
  go_wp2_with fail
  obtain ⟨w14, hrun, h14, g14⟩ := h13.update (val := .int .i64 3) keyed_int Tryz.underlying225 (by decide) (key_int 55 (by decide)) rfl
  have b14 := b13.grown g14 (by have := b13.size; omega) (fun k hk => by cases hk; exact Nat.le_refl _)
  clear h13 g14 b13
  rw [hrun]
  clear hrun
  go_wp2_with fail
  obtain ⟨w15, hrun, h15, g15⟩ := h14.update (val := .int .i64 0) keyed_int Tryz.underlying225 (by decide) (key_int 58 (by decide)) rfl
  have b15 := b14.grown g15 (by have := b14.size; omega) (fun k hk => by cases hk; exact Nat.le_refl _)
  clear h14 g15 b14
  rw [hrun]
  clear hrun
  go_wp2_with fail
  obtain ⟨w16, hrun, h16, g16⟩ := h15.update (val := .int .i64 1) keyed_int Tryz.underlying225 (by decide) (key_int 59 (by decide)) rfl
  have b16 := b15.grown g16 (by have := b15.size; omega) (fun k hk => by cases hk; exact Nat.le_refl _)
  clear h15 g16 b15
  rw [hrun]
  clear hrun
  go_wp2_with fail
  obtain ⟨w17, hrun, h17, g17⟩ := h16.update (val := .int .i64 0) keyed_int Tryz.underlying225 (by decide) (key_int 60 (by decide)) rfl
  have b17 := b16.grown g17 (by have := b16.size; omega) (fun k hk => by cases hk; exact Nat.le_refl _)
  clear h16 g17 b16
  rw [hrun]
  clear hrun
  go_wp2_with fail
  obtain ⟨w18, hrun, h18, g18⟩ := h17.update (val := .int .i64 1) keyed_int Tryz.underlying225 (by decide) (key_int 61 (by decide)) rfl
  have b18 := b17.grown g18 (by have := b17.size; omega) (fun k hk => by cases hk; exact Nat.le_refl _)
  clear h17 g18 b17
  rw [hrun]
  clear hrun
  go_wp2_with fail
  obtain ⟨w19, hrun, h19, g19⟩ := h18.update (val := .int .i64 2) keyed_int Tryz.underlying225 (by decide) (key_int 62 (by decide)) rfl
  have b19 := b18.grown g19 (by have := b18.size; omega) (fun k hk => by cases hk; exact Nat.le_refl _)
  clear h18 g19 b18
  rw [hrun]
  clear hrun
  obtain ⟨u, ps, hrun, hu⟩ := h19.lookup keyed_int Tryz.underlying225 (zero_i64 w19) (show asIs (.int .i64 0) = some (.held (.int .i64 0), []) from rfl) (key_int code HC.out)
  have hu1 : DataW.held u = reachD.atKey (.int .i64 code) (.held (.int .i64 0)) := congrArg Prod.fst (Option.some.inj hu)
  rw [HR.out] at hu1
  obtain rfl := held_inj hu1
  clear hu hu1 h19
  have B := Lib.hid b19
  clear b19
  go_wp2_with fail
  go_ret
  exact ⟨rfl, B.out⟩
end Go.Proofs.YtmbgemcddjailaaGreatDoor.Vld

/- VldG: What the checker's method callee does. No condition beyond what each theorem names. -/
namespace Go.Proofs.YtmbgemcddjailaaGreatDoor.Vld
open Go.RowKit Go.Maps Go.Proofs.YtmbgemcddjailaaGreatDoor.Op Go.Proofs.YtmbgemcddjailaaGreatDoor.Mod
set_option linter.unusedVariables false
theorem calleeC_in {v : Vn} {c : Ck} {n : Nat} {t : FT} (h : calleeL v.m n = some t) : calleeC v n c = (c, t) := by
  unfold calleeC
  rw [h]
  rfl
theorem calleeC_out {v : Vn} {c : Ck} {n : Nat} (h : calleeL v.m n = none) : calleeC v n c = (badC c, noFT) := by
  unfold calleeC
  rw [h]
  rfl
theorem two_sets (W : World) (b : Nat) (v0 v1 : Value) : Keeps (fun j => j = b) W ((W.setCell ⟨b, 0, none⟩ v0).setCell ⟨b, 1, none⟩ v1) :=
  have h : ∀ (V : World) (j : Nat) (u : Value), Keeps (fun j => j = b) V (V.setCell ⟨b, j, none⟩ u) := fun V j u => Keeps.setCell V ⟨b, j, none⟩ u rfl
  (h _ _ _).trans (h _ _ _) (fun j hj => .inl hj)
/-- a call that is none: what the walk needs, whatever the way -/
theorem callee_bad_end {w : World} {B cb : Nat} {E : Ce} {x : Cx} {c : Ck} {k : Nat} (h : CkAt w B cb E x c k) (W6 : World) (o : Obj) (q : Nat) (hs : Keeps (fun j => j = w.heap.size) (((w.alloc o).drewN q).setCell ⟨cb, 12, none⟩ (.bool true)) W6) : Upd w B cb E x (badC c) k W6 := by
  have B0 : Below w.heap.size w ((w.alloc o).drewN q) := below_drewN ((Below.refl _ _).alloc (Nat.le_refl _) o) q
  have hu := (h.later B0).setWrong true
  exact Upd.sets B0 (fun j hj => (h.foot_lt j hj).2) hu w.heap.size (Nat.le_refl _) (by show _ < (w.alloc o).heap.size; simp) hs
set_option maxRecDepth 100000 in
set_option maxHeartbeats 4000000 in
theorem callee_out1 (v : Vn) (n : Nat) (hn : n < 4294967296) (w : World) (B cb : Nat) (E : Ce) (x : Cx) (c : Ck) (k : Nat) (h : CkAt w B cb E x c k) (hf : FuncsAt w E.f v.m.funcs) (ht : TypesAt w E.t v.m.types) (ho : v.m.funcs.length ≤ n) :
    Calls Tryz.prog 105 #[.pointer (some ⟨cb, 0, none⟩), .int .i64 (n : Int)] w fun e w' => e = .returned (.agg #[.string ⟨#[]⟩, .string ⟨#[]⟩]) ∧ Upd w B cb E x (badC c) k w' := by
  obtain ⟨c0, c1, _, _, _, _, _⟩ := h.fixed
  obtain ⟨la, cap, hv, hle, hat⟩ := hf.form
  obtain ⟨lb, tcap, hvt, hlet, hatt⟩ := ht.form
  rw [hv] at c1
  rw [hvt] at c0
  obtain ⟨L, hL⟩ : ∃ L, v.m.funcs.length = L := ⟨_, rfl⟩
  obtain ⟨T, hT⟩ : ∃ T, v.m.types.length = T := ⟨_, rfl⟩
  rw [hL] at c1 hle
  rw [hT] at c0 hlet
  have HE := Lib.hid (callee_bad_end h)
  have hcb := h.lt
  obtain ⟨_, _, c2⟩ := h.cells
  have fz := h.frozen 12
  have hne : w.heap.size ≠ cb := by omega
  have hd : decide (L ≤ n) = true := decide_eq_true (by omega)
  clear ho
  clear h hf hat hv hL ht hatt hvt hT
  go_enter Tryz.func105, Tryz.ntmps105
  go_wp2_with fail
  go_quiet (fail)
  go_wp2_with fail
  refine bodyPost_ret (v := .agg #[.string ⟨#[]⟩, .string ⟨#[]⟩]) (by simp [results, Tryz.results105, go_sem]) rfl ⟨rfl, ?_⟩
  exact HE.out _ _ _ (two_sets _ _ _ _)
set_option maxRecDepth 100000 in
set_option maxHeartbeats 4000000 in
theorem callee_out2 (v : Vn) (n : Nat) (hn : n < 4294967296) (w : World) (B cb : Nat) (E : Ce) (x : Cx) (c : Ck) (k : Nat) (h : CkAt w B cb E x c k) (hf : FuncsAt w E.f v.m.funcs) (ht : TypesAt w E.t v.m.types) (f : FuncP) (hg : v.m.funcs[n]? = some f) (ho : f.ty < 0) :
    Calls Tryz.prog 105 #[.pointer (some ⟨cb, 0, none⟩), .int .i64 (n : Int)] w fun e w' => e = .returned (.agg #[.string ⟨#[]⟩, .string ⟨#[]⟩]) ∧ Upd w B cb E x (badC c) k w' := by
  obtain ⟨c0, c1, _, _, _, _, _⟩ := h.fixed
  obtain ⟨la, cap, hv, hle, hat⟩ := hf.form
  obtain ⟨lb, tcap, hvt, hlet, hatt⟩ := ht.form
  rw [hv] at c1
  rw [hvt] at c0
  obtain ⟨L, hL⟩ : ∃ L, v.m.funcs.length = L := ⟨_, rfl⟩
  obtain ⟨T, hT⟩ : ∃ T, v.m.types.length = T := ⟨_, rfl⟩
  rw [hL] at c1 hle
  rw [hT] at c0 hlet
  have HE := Lib.hid (callee_bad_end h)
  have hcb := h.lt
  obtain ⟨_, _, c2⟩ := h.cells
  have fz := h.frozen 12
  have hne : w.heap.size ≠ cb := by omega
  obtain ⟨r, hr, _, b, off, hla, hb, hc⟩ := hat n f hg
  obtain ⟨cv, hr2, _⟩ := hr
  rw [hr2] at hc
  have d0 : w.cell? ⟨b, off + n * 3, none⟩ = some (.int .i64 f.ty) := hc 0 _ rfl
  have hlt := (List.getElem?_eq_some_iff.1 hg).1
  subst hla
  have hd : decide (L ≤ n) = false := decide_eq_false (by omega)
  have hi0 : (0 : Int) ≤ (n : Int) := by omega
  have hi1 : (n : Int) < (L : Int) := by omega
  have hd2 : decide (f.ty < 0) = true := decide_eq_true ho
  clear hr2 hc hg hlt ho
  clear h hf hat hv hL ht hatt hvt hT
  go_enter Tryz.func105, Tryz.ntmps105
  go_wp2_with fail
  go_quiet (fail)
  go_wp2_with fail
  refine bodyPost_ret (v := .agg #[.string ⟨#[]⟩, .string ⟨#[]⟩]) (by simp [results, Tryz.results105, go_sem]) rfl ⟨rfl, ?_⟩
  exact HE.out _ _ _ (two_sets _ _ _ _)
set_option maxRecDepth 100000 in
set_option maxHeartbeats 4000000 in
theorem callee_out3 (v : Vn) (n : Nat) (hn : n < 4294967296) (w : World) (B cb : Nat) (E : Ce) (x : Cx) (c : Ck) (k : Nat) (h : CkAt w B cb E x c k) (hf : FuncsAt w E.f v.m.funcs) (ht : TypesAt w E.t v.m.types) (f : FuncP) (hg : v.m.funcs[n]? = some f) (h0 : 0 ≤ f.ty) (ho : (v.m.types.length : Int) ≤ f.ty) :
    Calls Tryz.prog 105 #[.pointer (some ⟨cb, 0, none⟩), .int .i64 (n : Int)] w fun e w' => e = .returned (.agg #[.string ⟨#[]⟩, .string ⟨#[]⟩]) ∧ Upd w B cb E x (badC c) k w' := by
  obtain ⟨c0, c1, _, _, _, _, _⟩ := h.fixed
  obtain ⟨la, cap, hv, hle, hat⟩ := hf.form
  obtain ⟨lb, tcap, hvt, hlet, hatt⟩ := ht.form
  rw [hv] at c1
  rw [hvt] at c0
  obtain ⟨L, hL⟩ : ∃ L, v.m.funcs.length = L := ⟨_, rfl⟩
  obtain ⟨T, hT⟩ : ∃ T, v.m.types.length = T := ⟨_, rfl⟩
  rw [hL] at c1 hle
  rw [hT] at c0 hlet
  have HE := Lib.hid (callee_bad_end h)
  have hcb := h.lt
  obtain ⟨_, _, c2⟩ := h.cells
  have fz := h.frozen 12
  have hne : w.heap.size ≠ cb := by omega
  obtain ⟨r, hr, _, b, off, hla, hb, hc⟩ := hat n f hg
  obtain ⟨cv, hr2, _⟩ := hr
  rw [hr2] at hc
  have d0 : w.cell? ⟨b, off + n * 3, none⟩ = some (.int .i64 f.ty) := hc 0 _ rfl
  have hlt := (List.getElem?_eq_some_iff.1 hg).1
  subst hla
  have hd : decide (L ≤ n) = false := decide_eq_false (by omega)
  have hi0 : (0 : Int) ≤ (n : Int) := by omega
  have hi1 : (n : Int) < (L : Int) := by omega
  have hd2 : decide (f.ty < 0) = false := decide_eq_false (by omega)
  have hd3 : decide ((T : Int) ≤ f.ty) = true := decide_eq_true (by omega)
  clear hr2 hc hg hlt ho h0
  clear h hf hat hv hL ht hatt hvt hT
  go_enter Tryz.func105, Tryz.ntmps105
  go_wp2_with fail
  go_quiet (fail)
  go_wp2_with fail
  refine bodyPost_ret (v := .agg #[.string ⟨#[]⟩, .string ⟨#[]⟩]) (by simp [results, Tryz.results105, go_sem]) rfl ⟨rfl, ?_⟩
  exact HE.out _ _ _ (two_sets _ _ _ _)
set_option maxRecDepth 100000 in
set_option maxHeartbeats 4000000 in
theorem callee_in (v : Vn) (n : Nat) (hn : n < 4294967296) (w : World) (B cb : Nat) (E : Ce) (x : Cx) (c : Ck) (k : Nat) (h : CkAt w B cb E x c k) (hf : FuncsAt w E.f v.m.funcs) (ht : TypesAt w E.t v.m.types) (f : FuncP) (hg : v.m.funcs[n]? = some f) (i : Nat) (h0 : f.ty = (i : Int)) (t : FT) (hti : v.m.types[i]? = some t) :
    Calls Tryz.prog 105 #[.pointer (some ⟨cb, 0, none⟩), .int .i64 (n : Int)] w fun e w' => e = .returned (.agg #[.string t.params, .string t.results]) ∧ Upd w B cb E x c k w' := by
  obtain ⟨c0, c1, _, _, _, _, _⟩ := h.fixed
  obtain ⟨la, cap, hv, hle, hat⟩ := hf.form
  obtain ⟨lb, tcap, hvt, hlet, hatt⟩ := ht.form
  rw [hv] at c1
  rw [hvt] at c0
  obtain ⟨L, hL⟩ : ∃ L, v.m.funcs.length = L := ⟨_, rfl⟩
  obtain ⟨T, hT⟩ : ∃ T, v.m.types.length = T := ⟨_, rfl⟩
  rw [hL] at c1 hle
  rw [hT] at c0 hlet
  have H := Lib.hid h
  have hcb := h.lt
  obtain ⟨r, hr, _, b, off, hla, hb, hc⟩ := hat n f hg
  obtain ⟨cv, hr2, _⟩ := hr
  rw [hr2] at hc
  have d0 : w.cell? ⟨b, off + n * 3, none⟩ = some (.int .i64 f.ty) := hc 0 _ rfl
  have hlt := (List.getElem?_eq_some_iff.1 hg).1
  subst hla
  have hd : decide (L ≤ n) = false := decide_eq_false (by omega)
  have hi0 : (0 : Int) ≤ (n : Int) := by omega
  have hi1 : (n : Int) < (L : Int) := by omega
  obtain ⟨r2, hq, _, b2, off2, hlb, hb2, hc2⟩ := hatt i t hti
  rw [hq.1] at hc2
  have q0 : w.cell? ⟨b2, off2 + i * 2, none⟩ = some (.string t.params) := hc2 0 _ rfl
  have q1 : w.cell? ⟨b2, off2 + i * 2 + 1, none⟩ = some (.string t.results) := hc2 1 _ rfl
  have hlt2 := (List.getElem?_eq_some_iff.1 hti).1
  subst hlb
  rw [h0] at d0
  have hd2 : decide ((i : Int) < 0) = false := decide_eq_false (by omega)
  have hd3 : decide (T ≤ i) = false := decide_eq_false (by omega)
  have hj0 : (0 : Int) ≤ (i : Int) := by omega
  have hj1 : (i : Int) < (T : Int) := by omega
  have hne : b ≠ w.heap.size := by omega
  have hne2 : b2 ≠ w.heap.size := by omega
  clear h hf hat hv hL ht hatt hvt hT hr2 hc hg hlt hti hc2 hlt2
  go_enter Tryz.func105, Tryz.ntmps105
  go_wp2_with fail
  go_quiet (fail)
  go_wp2_with fail
  obtain ⟨W, hW⟩ : ∃ W, (w.alloc (.cells #[.string ⟨#[]⟩, .string ⟨#[]⟩] 25)).drewN nq = W := ⟨_, rfl⟩
  rw [hW]
  have hpast : ∀ b j v, b < w.heap.size → w.cell? ⟨b, j, none⟩ = some v → W.cell? ⟨b, j, none⟩ = some v := fun b j v hl hv => by rw [← hW]; exact (World.cell?_alloc_past _ _ _ hl).trans hv
  have c0 := hpast _ _ _ hcb c0
  have c1 := hpast _ _ _ hcb c1
  have d0 := hpast _ _ _ hb d0
  have q0 := hpast _ _ _ hb2 q0
  have q1 := hpast _ _ _ hb2 q1
  have r0 : W.cell? ⟨w.heap.size, 0, none⟩ = some (.string ⟨#[]⟩) := by rw [← hW]; exact World.cell?_alloc_at _ _ _ _ rfl
  have r1 : W.cell? ⟨w.heap.size, 1, none⟩ = some (.string ⟨#[]⟩) := by rw [← hW]; exact World.cell?_alloc_at _ _ _ _ rfl
  have rf : ∀ j, W.frozen? ⟨w.heap.size, j, none⟩ = false := fun j => by
    have h1 : W.heap[w.heap.size]? = some (.cells #[.string ⟨#[]⟩, .string ⟨#[]⟩] 25 (0, 0)) := by rw [← hW]; exact heap_alloc_new w _
    exact frozen_of_row W w.heap.size j _ _ h1
  have B0 : Below w.heap.size w W := by rw [← hW]; exact below_drewN ((Below.refl _ _).alloc (Nat.le_refl _) _) nq
  have HU := Lib.hid (Upd.below (H.out.later B0) (Below.refl _ _).drew)
  have BB := Lib.hid B0
  have HFT := Lib.hid (show ∀ j, x.foot cb E j → j < w.heap.size from fun j hj => (H.out.foot_lt j hj).2)
  have hlt : w.heap.size < W.heap.size := by rw [← hW]; show _ < (w.alloc _).heap.size; simp
  have HL := Lib.hid hlt
  clear hW hpast B0 hlt
  go_still_tail 16, (by kernel_rfl)
  change wpList _ _ _ _ _ W.drew
  have r0d : W.drew.cell? ⟨w.heap.size, 0, none⟩ = some (.string ⟨#[]⟩) := r0
  have r1d : W.drew.cell? ⟨w.heap.size, 1, none⟩ = some (.string ⟨#[]⟩) := r1
  clear c0 c1 d0 q0 q1
  go_wp2_with fail
  refine bodyPost_ret (v := .agg #[.string t.params, .string t.results]) (by simp [results, Tryz.results105, go_sem, r0, r1]) rfl ⟨rfl, ?_⟩
  exact Upd.sets BB.out HFT.out HU.out w.heap.size (Nat.le_refl _) HL.out (two_sets W.drew _ _ _)
end Go.Proofs.YtmbgemcddjailaaGreatDoor.Vld
