/-
  What package module's Copy answers. No condition but that the module's lists have room.
-/
import Derived.Test.YthkdegmnnbepdaaGreatDoorModCopyZ
import Derived.Deep.LoopGhost
import Derived.Deep.CutRange
namespace Go.Proofs.YthkdegmnnbepdaaGreatDoor.Mod
open Go.RowKit Go.Maps Go.Proofs.YthkdegmnnbepdaaGreatDoor.Op
set_option linter.unusedVariables false
set_option maxRecDepth 100000 in
set_option maxHeartbeats 8000000 in
theorem copy_any (t f me g e : Value) (st : Int) (d : Value) (w : World) (rt rf rm rg re rd : List (List Value))
    (ht : Listed 63 68 2 w.heap.size w t rt)
    (hf : Listed 64 33 3 w.heap.size w f rf)
    (hm : Listed 65 62 2 w.heap.size w me rm)
    (hg : Listed 66 60 3 w.heap.size w g rg)
    (he : Listed 67 58 3 w.heap.size w e re)
    (hd : Listed 68 49 2 w.heap.size w d rd)
    (fs : List FuncP) (hFL : rf.length = fs.length) (hFS : ∀ (i : Nat) r x, rf[i]? = some r → fs[i]? = some x → isFunc w r x) (hFlen : rf.length ≤ 1000000000) (hroom : ∀ x ∈ fs, ∀ y ∈ x.code, y.labels.length ≤ 1000000000) :
    Calls Tryz.prog 22 #[modV t f me g e st d] w (CopyDone w st rt rm rg re rd fs) := by
  have HT := Lib.hid ht
  have HF := Lib.hid hf
  have HM := Lib.hid hm
  have HG := Lib.hid hg
  have HE := Lib.hid he
  have HD := Lib.hid hd
  have HFS := Lib.hid hFS
  have HROOM := Lib.hid hroom
  have HFL := Lib.hid hFL
  clear hFS hroom hFL
  clear ht hf hm hg he hd
  unfold modV
  obtain ⟨W0, hW0⟩ : ∃ W0, (w.alloc (.cells #[t, f, me, g, e, .int .i64 st, d] 29)).alloc (.cells #[.slice none 0 0, .slice none 0 0, .slice none 0 0, .slice none 0 0, .slice none 0 0, .int .i64 0, .slice none 0 0] 29) = W0 := ⟨_, rfl⟩
  have B0 : Below w.heap.size w W0 := by rw [← hW0]; exact ((Below.refl _ _).alloc (Nat.le_refl _) _).alloc (by simp) _
  have hH0 : HeldC w.heap.size t f me g e st d W0 W0 := by
    refine ⟨?_, ?_, ?_, ?_, ?_, ?_, ?_, Below.refl _ _⟩ <;> (rw [← hW0]; simp)
  have hz0 : W0.heap.size = w.heap.size + 2 := by rw [← hW0]; simp
  have HLT := Lib.hid (show w.heap.size < W0.heap.size by omega)
  have HZ0 := Lib.hid hz0
  have HZR := Lib.hid (show ZeroAt W0 (w.heap.size + 1) by
    have := heap_alloc_new (w.alloc (.cells #[t, f, me, g, e, .int .i64 st, d] 29)) (.cells zeroC 29)
    rw [show (w.alloc (.cells #[t, f, me, g, e, .int .i64 st, d] 29)).heap.size = w.heap.size + 1 by simp] at this
    rw [← hW0]
    exact this)
  have HH := Lib.hid hH0
  have HB0 := Lib.hid B0
  clear hH0 B0 hz0
  go_enter Tryz.func22, Tryz.ntmps22
  go_upto_region 1 with fail
  clear hW0
  obtain ⟨h0, h1, h2, h3, h4, h5, h6, _⟩ := HH.out
  go_cut [3] (fun s3 wx => ∃ ob aa qa ab qb ac qc ad qd ae qe af qf, s3 = .pointer (some ⟨ob, 0, none⟩) ∧ HeadAt w.heap.size t f me g e st d W0 ob (.slice aa rt.length qa) (.slice ab rf.length qb) (.slice ac rm.length qc) (.slice ad rg.length qd) (.slice ae re.length qe) (.slice af rd.length qf) rt rf rm rg re rd wx)
  case first =>
    go_region_held3 (fun W => HeldC w.heap.size t f me g e st d W0 W) (first | (with_reducible assumption) | (with_reducible exact heldC_drew HH.out) | (with_reducible exact heldC_alloc _ (heldC_drew HH.out)) | (with_reducible exact heldC_drew (heldC_alloc _ HH.out)) | (with_reducible exact heldC_alloc _ Sa.out) | (with_reducible exact heldC_alloc _ Sb.out) | (with_reducible exact heldC_alloc _ Sc.out) | (with_reducible exact heldC_alloc _ Sd.out) | (with_reducible exact heldC_alloc _ Se.out) | (with_reducible exact heldC_alloc _ (by with_reducible assumption)) | (with_reducible exact heldC_drew (by with_reducible assumption)) | (with_reducible exact heldC_alloc _ (heldC_drew (by with_reducible assumption))) | (with_reducible exact heldC_alloc _ Sf.out) | (with_reducible exact heldC_sets HLT.out (Nat.le_refl _) _ _ _ _ _ _ _ Sf.out) | (with_reducible exact heldC_sets HLT.out Sa.out.2.2.2.2.2.2.2.size _ _ _ _ _ _ _ Sf.out) | (with_reducible exact heldC_sets HLT.out Sb.out.2.2.2.2.2.2.2.size _ _ _ _ _ _ _ Sf.out) | (with_reducible exact heldC_sets HLT.out Sc.out.2.2.2.2.2.2.2.size _ _ _ _ _ _ _ Sf.out) | (with_reducible exact heldC_sets HLT.out Sd.out.2.2.2.2.2.2.2.size _ _ _ _ _ _ _ Sf.out) | (with_reducible exact heldC_sets HLT.out Se.out.2.2.2.2.2.2.2.size _ _ _ _ _ _ _ Sf.out))
      (first
        | (go_at_call 63; refine (HT.out _ ?_ ?_).mono ?_; (exact HB0.out.trans ((‹HeldC w.heap.size t f me g e st d W0 _›).2.2.2.2.2.2.2.mono HB0.out.size)); (exact Nat.le_trans HB0.out.size (‹HeldC w.heap.size t f me g e st d W0 _›).2.2.2.2.2.2.2.size); rintro en Wa ⟨⟨aa, qa, rfl, oa⟩, ca⟩; have Sa := Lib.hid (heldC_later (b := w.heap.size) (t := t) (f := f) (me := me) (g := g) (e := e) (st := st) (d := d) (W0 := W0) ca (by with_reducible assumption)); have ka := Sa.out; (first | (with_reducible refine (fun (zz : Hid (ZeroAt Wa W0.heap.size)) => ?_) (Lib.hid (zero_after_d1 ca))) | (with_reducible refine (fun (zz : Hid (ZeroAt Wa W0.heap.size)) => ?_) (Lib.hid (zero_after_d2 ca))) | skip))
        | (go_at_call 64; refine (HF.out _ ?_ ?_).mono ?_; (exact HB0.out.trans ((‹HeldC w.heap.size t f me g e st d W0 _›).2.2.2.2.2.2.2.mono HB0.out.size)); (exact Nat.le_trans HB0.out.size (‹HeldC w.heap.size t f me g e st d W0 _›).2.2.2.2.2.2.2.size); rintro en Wb ⟨⟨ab, qb, rfl, ob⟩, cb⟩; have Sb := Lib.hid (heldC_later (b := w.heap.size) (t := t) (f := f) (me := me) (g := g) (e := e) (st := st) (d := d) (W0 := W0) cb (by with_reducible assumption)); have kb := Sb.out; (first | (with_reducible refine (fun zz => ?_) (Lib.hid (zero_later zz.out cb))) | (with_reducible refine (fun zz => ?_) (Lib.hid (zero_after cb))) | skip))
        | (go_at_call 65; refine (HM.out _ ?_ ?_).mono ?_; (exact HB0.out.trans ((‹HeldC w.heap.size t f me g e st d W0 _›).2.2.2.2.2.2.2.mono HB0.out.size)); (exact Nat.le_trans HB0.out.size (‹HeldC w.heap.size t f me g e st d W0 _›).2.2.2.2.2.2.2.size); rintro en Wc ⟨⟨ac, qc, rfl, oc⟩, cc⟩; have Sc := Lib.hid (heldC_later (b := w.heap.size) (t := t) (f := f) (me := me) (g := g) (e := e) (st := st) (d := d) (W0 := W0) cc (by with_reducible assumption)); have kc := Sc.out; (first | (with_reducible refine (fun zz => ?_) (Lib.hid (zero_later zz.out cc))) | (with_reducible refine (fun zz => ?_) (Lib.hid (zero_after cc))) | skip))
        | (go_at_call 66; refine (HG.out _ ?_ ?_).mono ?_; (exact HB0.out.trans ((‹HeldC w.heap.size t f me g e st d W0 _›).2.2.2.2.2.2.2.mono HB0.out.size)); (exact Nat.le_trans HB0.out.size (‹HeldC w.heap.size t f me g e st d W0 _›).2.2.2.2.2.2.2.size); rintro en Wd ⟨⟨ad, qd, rfl, od⟩, cd⟩; have Sd := Lib.hid (heldC_later (b := w.heap.size) (t := t) (f := f) (me := me) (g := g) (e := e) (st := st) (d := d) (W0 := W0) cd (by with_reducible assumption)); have kd := Sd.out; (first | (with_reducible refine (fun zz => ?_) (Lib.hid (zero_later zz.out cd))) | (with_reducible refine (fun zz => ?_) (Lib.hid (zero_after cd))) | skip))
        | (go_at_call 67; refine (HE.out _ ?_ ?_).mono ?_; (exact HB0.out.trans ((‹HeldC w.heap.size t f me g e st d W0 _›).2.2.2.2.2.2.2.mono HB0.out.size)); (exact Nat.le_trans HB0.out.size (‹HeldC w.heap.size t f me g e st d W0 _›).2.2.2.2.2.2.2.size); rintro en We ⟨⟨ae, qe, rfl, oe⟩, ce⟩; have Se := Lib.hid (heldC_later (b := w.heap.size) (t := t) (f := f) (me := me) (g := g) (e := e) (st := st) (d := d) (W0 := W0) ce (by with_reducible assumption)); have ke := Se.out; (first | (with_reducible refine (fun zz => ?_) (Lib.hid (zero_later zz.out ce))) | (with_reducible refine (fun zz => ?_) (Lib.hid (zero_after ce))) | skip))
        | (go_at_call 68; refine (HD.out _ ?_ ?_).mono ?_; (exact HB0.out.trans ((‹HeldC w.heap.size t f me g e st d W0 _›).2.2.2.2.2.2.2.mono HB0.out.size)); (exact Nat.le_trans HB0.out.size (‹HeldC w.heap.size t f me g e st d W0 _›).2.2.2.2.2.2.2.size); rintro en Wf ⟨⟨af, qf, rfl, of⟩, cf⟩; have Sf := Lib.hid (heldC_later (b := w.heap.size) (t := t) (f := f) (me := me) (g := g) (e := e) (st := st) (d := d) (W0 := W0) cf (by with_reducible assumption)); have kf := Sf.out; (first | (with_reducible refine (fun zz => ?_) (Lib.hid (zero_later zz.out cf))) | (with_reducible refine (fun zz => ?_) (Lib.hid (zero_after cf))) | skip); (first | ((with_reducible refine (fun zy => ?_) (zero_cells zz.out)); obtain ⟨⟨z0, z1, z2, z3, z4, z5, z6⟩, y0, y1, y2, y3, y4, y5, y6⟩ := zy) | skip)))
    all_goals
      go_wp2_with fail
      have la : Below Wa.heap.size Wa Wb := (by first | (with_reducible exact cb) | (with_reducible exact link_alloc cb) | (with_reducible exact link_drew cb) | (with_reducible exact link_alloc_drew cb) | (with_reducible exact link_drew_alloc cb))
      have lb : Below Wb.heap.size Wb Wc := (by first | (with_reducible exact cc) | (with_reducible exact link_alloc cc) | (with_reducible exact link_drew cc) | (with_reducible exact link_alloc_drew cc) | (with_reducible exact link_drew_alloc cc))
      have lc : Below Wc.heap.size Wc Wd := (by first | (with_reducible exact cd) | (with_reducible exact link_alloc cd) | (with_reducible exact link_drew cd) | (with_reducible exact link_alloc_drew cd) | (with_reducible exact link_drew_alloc cd))
      have ld : Below Wd.heap.size Wd We := (by first | (with_reducible exact ce) | (with_reducible exact link_alloc ce) | (with_reducible exact link_drew ce) | (with_reducible exact link_alloc_drew ce) | (with_reducible exact link_drew_alloc ce))
      have le : Below We.heap.size We Wf := (by first | (with_reducible exact cf) | (with_reducible exact link_alloc cf) | (with_reducible exact link_drew cf) | (with_reducible exact link_alloc_drew cf) | (with_reducible exact link_drew_alloc cf))
      have sa : W0.heap.size ≤ Wa.heap.size := ka.2.2.2.2.2.2.2.size
      have sb : W0.heap.size ≤ Wb.heap.size := kb.2.2.2.2.2.2.2.size
      have sc : W0.heap.size ≤ Wc.heap.size := kc.2.2.2.2.2.2.2.size
      have sd : W0.heap.size ≤ Wd.heap.size := kd.2.2.2.2.2.2.2.size
      have se : W0.heap.size ≤ We.heap.size := ke.2.2.2.2.2.2.2.size
      have sf : W0.heap.size ≤ Wf.heap.size := kf.2.2.2.2.2.2.2.size
      have mf : Below Wf.heap.size Wf Wf := Below.refl _ _
      have me : Below We.heap.size We Wf := le.trans (mf.mono le.size)
      have md : Below Wd.heap.size Wd Wf := ld.trans (me.mono ld.size)
      have mc : Below Wc.heap.size Wc Wf := lc.trans (md.mono lc.size)
      have mb : Below Wb.heap.size Wb Wf := lb.trans (mc.mono lb.size)
      have ma : Below Wa.heap.size Wa Wf := la.trans (mb.mono la.size)
      have Oa := OwnAt.lift (B' := W0.heap.size) oa (by first | exact Nat.le_refl _ | assumption | (simp; done) | (simp; omega)) ma
      have Ob := OwnAt.lift (B' := W0.heap.size) ob (by first | exact Nat.le_refl _ | assumption | (simp; done) | (simp; omega)) mb
      have Oc := OwnAt.lift (B' := W0.heap.size) oc (by first | exact Nat.le_refl _ | assumption | (simp; done) | (simp; omega)) mc
      have Od := OwnAt.lift (B' := W0.heap.size) od (by first | exact Nat.le_refl _ | assumption | (simp; done) | (simp; omega)) md
      have Oe := OwnAt.lift (B' := W0.heap.size) oe (by first | exact Nat.le_refl _ | assumption | (simp; done) | (simp; omega)) me
      have Of := OwnAt.lift (B' := W0.heap.size) of (by first | exact Nat.le_refl _ | assumption | (simp; done) | (simp; omega)) mf
      go_meet
      case rel =>
        refine ⟨_, aa, qa, ab, qb, ac, qc, ad, qd, ae, qe, af, qf, rfl, ?_⟩
        first
        | (with_reducible exact head_alloc kf Oa Ob Oc Od Oe Of)
        | (with_reducible exact head_sets HLT.out (Nat.le_refl _) zz.out kf Oa Ob Oc Od Oe Of)
        | (with_reducible exact head_sets HLT.out sa zz.out kf Oa Ob Oc Od Oe Of)
        | (with_reducible exact head_sets HLT.out sb zz.out kf Oa Ob Oc Od Oe Of)
        | (with_reducible exact head_sets HLT.out sc zz.out kf Oa Ob Oc Od Oe Of)
        | (with_reducible exact head_sets HLT.out sd zz.out kf Oa Ob Oc Od Oe Of)
        | (with_reducible exact head_sets HLT.out se zz.out kf Oa Ob Oc Od Oe Of)
  case rest =>
    obtain ⟨ob, aa, qa, ab, qb, ac, qc, ad, qd, ae, qe, af, qf, rfl, hC⟩ := hcut
    obtain ⟨hHeld, hob, hbox, oa, owf, oc, od, oe, of⟩ := hC
    have HHeld := Lib.hid hHeld
    have HOB := Lib.hid hob
    have HBOX := Lib.hid hbox
    have HOF := Lib.hid owf
    have HOWN := Lib.hid (And.intro oa (And.intro oc (And.intro od (And.intro oe of))))
    have b1 : wc.cell? ⟨ob, 1, none⟩ = some (.slice ab rf.length qb) := cell_of_row _ _ _ _ _ _ hbox
    clear hHeld hob hbox oa owf oc od oe of h0 h1 h2 h3 h4 h5 h6
    go_wp2_with fail
    clear b1
    go_loopg [31] rf.length (fun gk i wr => ∃ k : Nat, k ≤ rf.length ∧ gk = rf.length - k ∧ i = .int .i64 k ∧ OutAt wc W0.heap.size (.slice ab rf.length qb) rf fs k wr)
    case atStart => exact ⟨0, Nat.zero_le _, rfl, rfl, out_start fs HOF.out⟩
    case round =>
      obtain ⟨k, hk, rfl, rfl, hO⟩ := hrel
      obtain ⟨wo, rfl⟩ : ∃ wo : World, wo = wr := ⟨_, rfl⟩
      have HO := Lib.hid hO
      by_cases hlt : k < rf.length
      · obtain ⟨r, hr⟩ : ∃ r, rf[k]? = some r := ⟨_, List.getElem?_eq_getElem hlt⟩
        obtain ⟨x, hx⟩ : ∃ x, fs[k]? = some x := ⟨_, List.getElem?_eq_getElem (by have := HFL.out; omega)⟩
        obtain ⟨cv, rfl, hcode, hloc, hcl⟩ := HFS.out k r x hr hx
        obtain ⟨g, cap, hg, hgB, hgl⟩ := HOF.out.block hr
        simp only [Value.slice.injEq, true_and] at hg
        obtain ⟨rfl, rfl⟩ := hg
        obtain ⟨rows, r1, r2, r3, r4, r5⟩ := HO.out
        have hkb : Below W0.heap.size wc wo := r5.below (fun j hj => by simp [Value.ownBlock] at hj; omega) HHeld.out.2.2.2.2.2.2.2.size
        have hBw : Below w.heap.size w wo := (HB0.out.trans (HHeld.out.2.2.2.2.2.2.2.mono HB0.out.size)).trans (hkb.mono HB0.out.size)
        have HSZ := Lib.hid (show W0.heap.size ≤ wo.heap.size from Nat.le_trans HHeld.out.2.2.2.2.2.2.2.size hkb.size)
        have hne : g ≠ ob := fun e => kind_ne HOF.out.1 HBOX.out (by decide) (by rw [e]; rfl)
        have hboxr : wo.heap[ob]? = _ := (r5.block ob (Array.getElem?_eq_some_iff.1 HBOX.out).1 (fun hj => by simp [Value.ownBlock] at hj; exact hne hj)).trans HBOX.out
        have HBR := Lib.hid hboxr
        have b1 : wo.cell? ⟨ob, 1, none⟩ = some (.slice (some ⟨g, 0, none⟩) rf.length qb) := cell_of_row _ _ _ _ _ _ hboxr
        have hrk := (r3 k (Nat.le_refl _)).trans hr
        have b2 : wo.cell? ⟨g, k * 3 + 2, none⟩ = some cv := r2.cell (by omega) hrk rfl
        have hgr : g < wo.heap.size := (r2.1.lt g rfl).2
        obtain ⟨la, c, irows, rfl, hil, hix, hcall⟩ := ins_calls2 hcode hBw hcl
        have HCALL := Lib.hid hcall
        have HIX := Lib.hid hix
        have HIL := Lib.hid hil
        have HR2 := Lib.hid r2
        have HR1 := Lib.hid r1
        have HR := Lib.hid hr
        have HRK := Lib.hid hrk
        have HX := Lib.hid hx
        have HNE := Lib.hid hne
        have HBW := Lib.hid hBw
        have HGR := Lib.hid hgr
        have d1 : decide (k < rf.length) = true := decide_eq_true hlt
        clear hcall hix hil r1 r2 r3 r4 r5 hkb hBw hboxr hrk hr hx hne hO hcode
        go_wp2_with fail
        refine HCALL.out.mono ?_
        rintro e1 w1 ⟨⟨ia, ic, rfl, ho⟩, hb⟩
        have HOI := Lib.hid ho
        have HB1 := Lib.hid hb
        have b2' : w1.cell? ⟨g, k * 3 + 2, none⟩ = some (.slice la irows.length c) := cell_later hb b2
        have b3 : w1.frozen? ⟨g, k * 3 + 2, none⟩ = false := (HR2.out.later hb).soft _
        clear b1 b2 ho hb
        go_wp2_with fail
        obtain ⟨w2, hw2⟩ : ∃ w2, w1.setCell ⟨g, k * 3 + 2, none⟩ (.slice ia irows.length ic) = w2 := ⟨_, rfl⟩
        have k2 : Keeps (fun j => j = g) w1 w2 := by rw [← hw2]; exact Keeps.setCell (F := fun j => j = g) w1 _ _ rfl
        have hput : OwnAt w2 W0.heap.size 33 3 (.slice (some ⟨g, 0, none⟩) rf.length qb) (rows.set k [.int .i64 x.ty, .string x.locals, .slice ia irows.length ic]) := by rw [← hw2]; exact (HR2.out.later HB1.out).put HR1.out.symm HRK.out (p := 2) (by omega) (.slice ia irows.length ic)
        have c2 : w2.cell? ⟨g, k * 3 + 2, none⟩ = some (.slice ia irows.length ic) := hput.cell (by omega) (List.getElem?_set_self (List.getElem?_eq_some_iff.1 HRK.out).1) rfl
        obtain ⟨cs1, fz1, hk1⟩ := Lib.ownsRow_kind (HR2.out.later HB1.out).1 g rfl
        have hin : OwnAt w2 W0.heap.size 40 4 (.slice ia irows.length ic) irows := OwnAt.keeps (OwnAt.lift HOI.out HSZ.out (Below.refl _ _)) k2 (fun j hj => .inr ⟨cs1, 33, fz1, by obtain rfl : j = g := hj; exact hk1, by decide⟩)
        have HIN := Lib.hid hin
        have HW2 := Lib.hid hw2
        have HC2 := Lib.hid c2
        have HKG := Lib.hid (show w2.heap[g]? = some _ from by rw [← hw2]; exact box_set hk1 _ _)
        have HK2 := Lib.hid k2
        rw [hw2]
        clear hw2 hin hk1 hput k2 b2' b3
        go_wp2_with fail
        clear c2
        go_loopg [51] irows.length (fun gi i wi => ∃ j : Nat, j ≤ irows.length ∧ gi = irows.length - j ∧ i = .int .i64 j ∧ InAt w2 W0.heap.size (.slice ia irows.length ic) irows x.code j wi)
        case atStart => exact ⟨0, Nat.zero_le _, rfl, rfl, in_start x.code HIN.out⟩
        case round =>
          obtain ⟨j, hj, rfl, rfl, hI⟩ := hrel
          have HI := Lib.hid hI
          by_cases hjl : j < irows.length
          · obtain ⟨ir, hir⟩ : ∃ ir, irows[j]? = some ir := ⟨_, List.getElem?_eq_getElem hjl⟩
            obtain ⟨y, hy⟩ : ∃ y, x.code[j]? = some y := ⟨_, List.getElem?_eq_getElem (by have := HIL.out; omega)⟩
            obtain ⟨lv, rfl, hlv, hwf⟩ := HIX.out j ir y hir hy
            obtain ⟨gi, icap, hgi, hgiB, hgil⟩ := HIN.out.block hir
            simp only [Value.slice.injEq, true_and] at hgi
            obtain ⟨rfl, rfl⟩ := hgi
            obtain ⟨irs, q1, q2, q3, q4, q5⟩ := HI.out
            have hgi2 : wo.heap.size ≤ gi := (HOI.out.1.lt gi rfl).1
            have hng : g ≠ gi := by have := HGR.out; omega
            have s1 : W0.heap.size ≤ w1.heap.size := Nat.le_trans HSZ.out HB1.out.size
            have s2 : W0.heap.size ≤ w2.heap.size := Nat.le_trans s1 HK2.out.size
            have hBwi : Below w.heap.size w wr := ((HBW.out.trans (HB1.out.mono HBW.out.size)).trans ((HK2.out.below (B := W0.heap.size) (fun j hj => by obtain rfl : j = g := hj; exact hgB) s1).mono HB0.out.size)).trans ((q5.below (B := W0.heap.size) (fun j hj => by simp [Value.ownBlock] at hj; omega) s2).mono HB0.out.size)
            have e1 : wr.cell? ⟨g, k * 3 + 2, none⟩ = some (.slice (some ⟨gi, 0, none⟩) irows.length ic) := q5.cell HC2.out (fun hj => by simp [Value.ownBlock] at hj; exact hng hj.symm)
            have e2 : wr.cell? ⟨gi, j * 4 + 3, none⟩ = some lv := q2.cell (by omega) ((q3 j (Nat.le_refl _)).trans hir) rfl
            have HQ2 := Lib.hid q2
            have HCL := Lib.hid (int_calls2 hlv hBwi (HROOM.out x (List.mem_of_getElem? HX.out) y (List.mem_of_getElem? hy)))
            obtain ⟨la2, lc2, rfl⟩ := intsAt_form hlv
            have HIR := Lib.hid hir
            have HY := Lib.hid hy
            have d2 : decide (j < irows.length) = true := decide_eq_true hjl
            have hgi3 : gi < wr.heap.size := (q2.1.lt gi rfl).2
            have HG3 := Lib.hid hgi3
            have HSZ2 := Lib.hid (show W0.heap.size ≤ wr.heap.size from Nat.le_trans s2 q5.size)
            have HWF := Lib.hid hwf
            clear hI hir hy hlv q1 q2 q3 q4 q5 hBwi hng hgiB hgil hgi2 s1 s2 hgi3
            go_wp2_with fail
            go_region_with (go_at_call 70; refine (HCL.out _ ?_).mono ?_; (first | exact Below.refl _ _ | exact (Below.refl _ _).drew); rintro en w3 ⟨⟨la3, lc3, rfl, ho3⟩, hb3⟩; have e3 : w3.cell? ⟨g, k * 3 + 2, none⟩ = some (.slice (some ⟨gi, 0, none⟩) irows.length ic) := cell_later hb3 e1; have e4 : w3.cell? ⟨gi, j * 4 + 3, none⟩ = some (.slice la2 y.labels.length lc2) := cell_later hb3 e2; have e5 : w3.frozen? ⟨gi, j * 4 + 3, none⟩ = false := (HQ2.out.later hb3).soft _)
            all_goals
              go_wp2_with fail
              go_roundg (irows.length - (j + 1))
              case measure => omega
              case rel => have hb9 := HIL.out; have hb8 : j < 4611686018427387904 := by omega
                          exact ⟨j + 1, by omega, rfl, (by rw [show wrap64 ((j : Int) + 1) = (j : Int) + 1 from IntWalk.wrap64_in _ (by omega)]; rfl), in_step HI.out rfl HIR.out HY.out HWF.out HSZ2.out hb3 ho3⟩
          · have d2 : decide (j < irows.length) = false := decide_eq_false hjl
            clear hI
            go_wp2_with fail
            go_roundg (rf.length - (k + 1))
            case measure => omega
            case rel =>
              refine ⟨k + 1, by omega, rfl, by go_num, ?_⟩
              have hjc : j = x.code.length := by have := HIL.out; omega
              have hI2 := HI.out
              rw [hjc, ← HW2.out] at hI2
              exact out_step HO.out rfl HR.out HX.out HSZ.out HB1.out HOI.out HIL.out hI2
      · obtain rfl : k = rf.length := by omega
        obtain ⟨hc9, hb9, hbox9⟩ := copy_outer ⟨HHeld.out, HOB.out, HBOX.out, HOWN.out.1, HOF.out, HOWN.out.2.1, HOWN.out.2.2.1, HOWN.out.2.2.2.1, HOWN.out.2.2.2.2⟩ HO.out HFL.out
        have hz9 : ZeroAt wo (w.heap.size + 1) := (hb9.block _ (by have := HZ0.out; omega)).trans HZR.out
        have HC9 := Lib.hid hc9
        have HB9 := Lib.hid hb9
        have HZ9 := Lib.hid hz9
        obtain ⟨b0, b1, b2, b3, b4, b5, b6⟩ := box_cells hbox9
        obtain ⟨⟨z0, z1, z2, z3, z4, z5, z6⟩, y0, y1, y2, y3, y4, y5, y6⟩ := zero_cells hz9
        have d1 : decide (rf.length < rf.length) = false := decide_eq_false (Nat.lt_irrefl _)
        clear hc9 hb9 hz9 hbox9 hO hlt hk
        go_wp2_with fail
        obtain ⟨W7, hW7⟩ : ∃ W7, (((((((wo.setCell ⟨w.heap.size + 1, 0, none⟩ (.slice aa rt.length qa)).setCell ⟨w.heap.size + 1, 1, none⟩ (.slice ab rf.length qb)).setCell ⟨w.heap.size + 1, 2, none⟩ (.slice ac rm.length qc)).setCell ⟨w.heap.size + 1, 3, none⟩ (.slice ad rg.length qd)).setCell ⟨w.heap.size + 1, 4, none⟩ (.slice ae re.length qe)).setCell ⟨w.heap.size + 1, 5, none⟩ (.int .i64 st)).setCell ⟨w.heap.size + 1, 6, none⟩ (.slice af rd.length qf)) = W7 := ⟨_, rfl⟩
        rw [hW7]
        have hdone := copy_done HC9.out HB0.out HB9.out HZ9.out hW7
        obtain ⟨hb7, _, _⟩ := seven_setC HZ9.out _ _ _ _ _ _ _ _ hW7
        obtain ⟨p0, p1, p2, p3, p4, p5, p6⟩ := box_cells hb7
        exact bodyPost_ret (v := modV (.slice aa rt.length qa) (.slice ab rf.length qb) (.slice ac rm.length qc) (.slice ad rg.length qd) (.slice ae re.length qe) st (.slice af rd.length qf)) (by simp [results, Tryz.results22, go_sem, p0, p1, p2, p3, p4, p5, p6]; rfl) rfl hdone
end Go.Proofs.YthkdegmnnbepdaaGreatDoor.Mod
