/-
  A made module with one part turned: what it is, whether it is valid; how it lies. No condition beyond what each theorem names.
-/
import Derived.Test.YthcjgdmmpopplaaGreatDoorVldNestW
namespace Go.Proofs.YthcjgdmmpopplaaGreatDoor.Vld
open Go.RowKit Go.Maps Go.Lib Go.Proofs.YthcjgdmmpopplaaGreatDoor.Op Go.Proofs.YthcjgdmmpopplaaGreatDoor.Mod Go.Proofs.YthcjgdmmpopplaaGreatDoor.Pg
set_option linter.unusedVariables false
def expF : ExpP := ⟨⟨#[102]⟩, 0, 0⟩
def mkM (fty : Int) (mem : List MemP) (exps : List ExpP) (st : Int) (c : List Ins) : ModP := ⟨[⟨⟨#[126, 127]⟩, ⟨#[126]⟩⟩], [⟨fty, ⟨#[127, 126]⟩, c.map toL⟩], mem, [⟨127, true, 5⟩, ⟨126, true, -5⟩], exps, st, [⟨100, ⟨#[115, 111, 109, 101, 32, 98, 121, 116, 101, 115]⟩⟩]⟩
theorem mk_right (fty : Int) (mem : List MemP) (exps : List ExpP) (st : Int) (l : List Step) (hf : wordB fty = true) (hm : allB mem rightMem = true) (he : allB exps rightExp = true) (hs : (st == -1 || wordB st) = true) : rightM (mkM fty mem exps st (madeP l).code) = true := by
  have h1 := fn_right (madeP l).code (made_struct l) (made_oks l)
  have h2 : rightFunc ⟨fty, ⟨#[127, 126]⟩, (madeP l).code.map toL⟩ = true := by
    unfold rightFunc at h1 ⊢
    dsimp only at h1 ⊢
    rw [Bool.and_eq_true] at h1 ⊢
    exact ⟨hf, h1.2⟩
  unfold rightM mkM
  dsimp only
  rw [one_all _ _ h2, hm, he, hs, one_all _ rightFT (by decide), one_all _ rightData (by kernel_rfl)]
  rw [show allB [(⟨127, true, 5⟩ : GlobP), ⟨126, true, -5⟩] rightGlob = true by kernel_rfl]
  rfl
theorem mk_nest (fty : Int) (mem : List MemP) (exps : List ExpP) (st : Int) (l : List Step) : (mkM fty mem exps st (madeP l).code).funcs.any (fun x => decide (256 < nestP x.code)) = false := by
  have hn := nest_made l
  show ([(⟨fty, ⟨#[127, 126]⟩, (madeP l).code.map tL⟩ : FuncP)].any fun x => decide (256 < nestP x.code)) = false
  simp only [List.any_cons, List.any_nil, Bool.or_false, decide_eq_false_iff_not]
  omega
theorem mk_bad {fty : Int} {mem : List MemP} {exps : List ExpP} {st : Int} {l : List Step} (hr : rightM (mkM fty mem exps st (madeP l).code) = true) (hb : badB (mkM fty mem exps st (madeP l).code) = true) : moduleE (mkM fty mem exps st (madeP l).code) = 4 := by
  unfold moduleE
  rw [hr, if_neg (by decide), mk_nest, if_neg (by decide)]
  unfold e1
  rw [hb, if_pos rfl]
theorem mk_mem {fty : Int} {mem : List MemP} {exps : List ExpP} {st : Int} {l : List Step} (hr : rightM (mkM fty mem exps st (madeP l).code) = true) (hb : mem.any memBad = true) : moduleE (mkM fty mem exps st (madeP l).code) = 4 := by
  unfold moduleE
  rw [hr, if_neg (by decide), mk_nest, if_neg (by decide)]
  unfold e1
  split
  · rfl
  · unfold e2
    rw [show (mkM fty mem exps st (madeP l).code).memory = mem from rfl, hb, if_pos rfl]
def nOf (n : Nat) : Int := (n : Int) % 1000
theorem exp_word {n : Int} (h0 : 0 ≤ n) (h1 : n < 4294967296) : wordB n = true := by unfold wordB; simp; omega
theorem mk_0 (l : List Step) : moduleE (mkM 0 [⟨1, 2⟩] [expF, ⟨⟨#[102]⟩, 2, 0⟩] (-1) (madeP l).code) = 4 :=
  mk_bad (mk_right _ _ _ _ l (by decide) (by decide) (by kernel_rfl) (by decide)) (by kernel_rfl)
theorem mk_1 (l : List Step) (v : Int) (h0 : 0 ≤ v) (h1 : v < 1000) : moduleE (mkM 0 [⟨1, 2⟩] [expF, ⟨⟨#[103]⟩, 0, 1 + v⟩] (-1) (madeP l).code) = 4 := by
  refine mk_bad (mk_right _ _ _ _ l (by decide) (by decide) ?_ (by decide)) ?_
  · have hx : rightExp ⟨⟨#[103]⟩, 0, 1 + v⟩ = true := by
      unfold rightExp
      dsimp only
      rw [exp_word (n := 1 + v) (by omega) (by omega), show nameB ⟨#[103]⟩ = true by kernel_rfl]
      rfl
    unfold allB
    simp only [List.all_cons, List.all_nil, hx, show rightExp expF = true by kernel_rfl]
    rfl
  · have he : exportsB (mkM 0 [⟨1, 2⟩] [expF, ⟨⟨#[103]⟩, 0, 1 + v⟩] (-1) (madeP l).code) = false := by
      show expGo _ [] [expF, ⟨⟨#[103]⟩, 0, 1 + v⟩] = false
      show (if (1 : Int) ≤ 0 ∨ ([102] : List UInt8) ∈ ([] : List (List UInt8)) then false else if (1 : Int) ≤ 1 + v ∨ ([103] : List UInt8) ∈ [[102]] then false else true) = false
      rw [if_neg (by simp), if_pos (.inl (by omega))]
    unfold badB
    rw [he]
    simp
theorem mk_2 (l : List Step) : moduleE (mkM 0 [⟨1, 2⟩] [expF] 0 (madeP l).code) = 4 :=
  mk_bad (mk_right _ _ _ _ l (by decide) (by decide) (by kernel_rfl) (by decide)) (by kernel_rfl)
theorem mk_3 (l : List Step) : moduleE (mkM 0 [⟨1, 2⟩, ⟨1, 2⟩] [expF] (-1) (madeP l).code) = 4 :=
  mk_bad (mk_right _ _ _ _ l (by decide) (by decide) (by kernel_rfl) (by decide)) (by kernel_rfl)
theorem mk_4 (l : List Step) (v : Int) (h0 : 0 ≤ v) (h1 : v < 1000) : moduleE (mkM 0 [⟨65537 + v, -1⟩] [expF] (-1) (madeP l).code) = 4 := by
  refine mk_mem (mk_right _ _ _ _ l (by decide) ?_ (by kernel_rfl) (by decide)) ?_
  · refine one_all _ _ ?_
    unfold rightMem
    dsimp only
    rw [exp_word (n := 65537 + v) (by omega) (by omega)]
    rfl
  · simp only [List.any_cons, List.any_nil, memBad]
    rw [decide_eq_true (show (65536 : Int) < 65537 + v by omega)]
    rfl
theorem mk_5 (l : List Step) (v : Int) (h0 : 0 ≤ v) (h1 : v < 1000) : moduleE (mkM 0 [⟨1 + v, v⟩] [expF] (-1) (madeP l).code) = 4 := by
  refine mk_mem (mk_right _ _ _ _ l (by decide) ?_ (by kernel_rfl) (by decide)) ?_
  · refine one_all _ _ ?_
    unfold rightMem
    dsimp only
    rw [exp_word (n := 1 + v) (by omega) (by omega), exp_word h0 (by omega)]
    simp
  · simp only [List.any_cons, List.any_nil, memBad]
    rw [decide_eq_true (show 0 ≤ v from h0), decide_eq_true (show v < 1 + v by omega)]
    simp
theorem mk_6 (l : List Step) : moduleE (mkM 0 [⟨1, 2⟩] [expF, ⟨⟨#[109, 101, 109]⟩, 2, 0⟩, ⟨⟨#[103, 108, 111, 98]⟩, 3, 1⟩] (-1) (madeP l).code) = 0 := by
  have hv : validF (mkM 0 [⟨1, 2⟩] [expF, ⟨⟨#[109, 101, 109]⟩, 2, 0⟩, ⟨⟨#[103, 108, 111, 98]⟩, 3, 1⟩] (-1) (madeP l).code) ⟨0, ⟨#[127, 126]⟩, (madeP l).code.map tL⟩ = true := (made_valid rfl rfl rfl rfl (by simp [mkM]) l).1
  have h2 : (mkM 0 [⟨1, 2⟩] [expF, ⟨⟨#[109, 101, 109]⟩, 2, 0⟩, ⟨⟨#[103, 108, 111, 98]⟩, 3, 1⟩] (-1) (madeP l).code).funcs.all (fun x => validF (mkM 0 [⟨1, 2⟩] [expF, ⟨⟨#[109, 101, 109]⟩, 2, 0⟩, ⟨⟨#[103, 108, 111, 98]⟩, 3, 1⟩] (-1) (madeP l).code) x) = true := by
    show ([(⟨0, ⟨#[127, 126]⟩, (madeP l).code.map tL⟩ : FuncP)].all fun x => validF _ x) = true
    simp only [List.all_cons, List.all_nil, Bool.and_true]
    exact hv
  unfold moduleE
  rw [mk_right _ _ _ _ l (by decide) (by decide) (by kernel_rfl) (by decide), if_neg (by decide), mk_nest, if_neg (by decide)]
  unfold e1
  rw [show badB (mkM 0 [⟨1, 2⟩] [expF, ⟨⟨#[109, 101, 109]⟩, 2, 0⟩, ⟨⟨#[103, 108, 111, 98]⟩, 3, 1⟩] (-1) (madeP l).code) = false by kernel_rfl, if_neg (by decide)]
  unfold e2
  rw [show (mkM 0 [⟨1, 2⟩] [expF, ⟨⟨#[109, 101, 109]⟩, 2, 0⟩, ⟨⟨#[103, 108, 111, 98]⟩, 3, 1⟩] (-1) (madeP l).code).memory.any memBad = false by kernel_rfl, if_neg (by decide)]
  unfold e3
  rw [h2, if_pos rfl]
theorem mk_7 (l : List Step) : moduleE (mkM 1 [⟨1, 2⟩] [expF] (-1) (madeP l).code) = 4 := by
  unfold moduleE
  rw [mk_right _ _ _ _ l (by decide) (by decide) (by kernel_rfl) (by decide), if_neg (by decide), mk_nest, if_neg (by decide)]
  unfold e1
  split
  · rfl
  · unfold e2
    split
    · rfl
    · unfold e3
      rw [show (mkM 1 [⟨1, 2⟩] [expF] (-1) (madeP l).code).funcs.all (fun x => validF (mkM 1 [⟨1, 2⟩] [expF] (-1) (madeP l).code) x) = false by rfl]
      rfl
/-- what of a made module stays -/
structure PartsAt (w : World) (B bt bf bg bd : Nat) (cv : Value) (fty : Int) (code : List Ins) : Prop where
  ht : w.heap[bt]? = some (.cells #[.string ⟨#[126, 127]⟩, .string ⟨#[126]⟩] 51 (0, 0))
  hf : w.heap[bf]? = some (.cells #[.int .i64 fty, .string ⟨#[127, 126]⟩, cv] 35 (0, 0))
  hg : w.heap[bg]? = some (.cells #[.int .i64 127, .bool true, .int .i64 5, .int .i64 126, .bool true, .int .i64 (-5)] 71 (0, 0))
  hd : w.heap[bd]? = some (.cells #[.int .i64 100, .string ⟨#[115, 111, 109, 101, 32, 98, 121, 116, 101, 115]⟩] 73 (0, 0))
  hc : w.ownsRow B 38 4 cv code.length (codeV code)
  wf : ∀ x ∈ code, (Lit.int .i64 x.op).wf = true
  room : code.length ≤ 100000
theorem parts_of {w : World} {B bt bf bm bg be bd : Nat} {cv : Value} {code : List Ins} (h : MadeAt w B bt bf bm bg be bd cv code) : PartsAt w B bt bf bg bd cv 0 code := ⟨h.ht, h.hf, h.hg, h.hd, h.hc, h.wf, h.room⟩
theorem block_keep {w w' : World} {k b : Nat} {cs cs2 : Array Value} {t t2 : TypeId} {f f2 : Nat × Nat} (K : Keeps (fun j => j = b) w w') (h : w.heap[k]? = some (.cells cs t f)) (h2 : w.heap[b]? = some (.cells cs2 t2 f2)) (hne : t ≠ t2) : w'.heap[k]? = some (.cells cs t f) := by
  refine (K.block k (Array.getElem?_eq_some_iff.1 h).1 (fun e => ?_)).trans h
  subst e
  rw [h] at h2
  simp at h2
  exact hne h2.2.1
theorem row_keep {w w' : World} {B b : Nat} {cs2 : Array Value} {t2 e : TypeId} {f2 : Nat × Nat} {size n : Nat} {v : Value} {xs : List Value} (K : Keeps (fun j => j = b) w w') (h : w.ownsRow B e size v n xs) (h2 : w.heap[b]? = some (.cells cs2 t2 f2)) (hne : e ≠ t2) : w'.ownsRow B e size v n xs :=
  ownsRow_of h (fun k hk => K.block k (h.lt k hk).2 (fun e1 => kind_ne h h2 hne (by rw [hk, e1])))
theorem PartsAt.keep {w w' : World} {B bt bf bg bd : Nat} {cv : Value} {fty : Int} {code : List Ins} (h : PartsAt w B bt bf bg bd cv fty code) {b : Nat} {cs2 : Array Value} {t2 : TypeId} {f2 : Nat × Nat} (K : Keeps (fun j => j = b) w w') (h2 : w.heap[b]? = some (.cells cs2 t2 f2))
    (n1 : 51 ≠ t2 ∧ 35 ≠ t2 ∧ 71 ≠ t2 ∧ 73 ≠ t2 ∧ 38 ≠ t2) : PartsAt w' B bt bf bg bd cv fty code :=
  ⟨block_keep K h.ht h2 n1.1, block_keep K h.hf h2 n1.2.1, block_keep K h.hg h2 n1.2.2.1, block_keep K h.hd h2 n1.2.2.2.1, row_keep K h.hc h2 n1.2.2.2.2, h.wf, h.room⟩
theorem PartsAt.setTy {w : World} {B bt bf bg bd : Nat} {cv : Value} {fty : Int} {code : List Ins} (h : PartsAt w B bt bf bg bd cv fty code) (y : Int) : PartsAt (w.setCell ⟨bf, 0, none⟩ (.int .i64 y)) B bt bf bg bd cv y code := by
  have K : Keeps (fun j => j = bf) w (w.setCell ⟨bf, 0, none⟩ (.int .i64 y)) := Keeps.setCell w ⟨bf, 0, none⟩ _ rfl
  refine ⟨block_keep K h.ht h.hf (by decide), ?_, block_keep K h.hg h.hf (by decide), block_keep K h.hd h.hf (by decide), row_keep K h.hc h.hf (by decide), h.wf, h.room⟩
  exact box_set h.hf 0 _
theorem PartsAt.mod {w : World} {B bt bf bg bd : Nat} {cv mv ev : Value} {fty st : Int} {code : List Ins} {mem : List MemP} {exps : List ExpP} (h : PartsAt w B bt bf bg bd cv fty code) (hm : MemsAt w mv mem) (he : ExpsAt w ev exps) :
    ModAt w (.slice (some ⟨bt, 0, none⟩) 1 1) (.slice (some ⟨bf, 0, none⟩) 1 1) mv (.slice (some ⟨bg, 0, none⟩) 2 2) ev st (.slice (some ⟨bd, 0, none⟩) 1 1) (mkM fty mem exps st code) := by
  refine ⟨?_, ?_, hm, ?_, he, rfl, ?_⟩
  · refine row_of_block h.ht _ _ _ rfl (by simp [mkM]) (fun i x hi => ?_)
    obtain ⟨rfl, rfl⟩ := one_row hi
    exact ⟨⟨rfl, by decide, by decide⟩, rfl⟩
  · refine row_of_block h.hf _ _ _ rfl (by simp [mkM]) (fun i x hi => ?_)
    obtain ⟨rfl, rfl⟩ := one_row hi
    exact ⟨⟨cv, rfl, code_at h.hc h.room h.wf, show (2 : Nat) ≤ _ by decide, by have := h.room; show (code.map toL).length * 48 ≤ _; rw [List.length_map]; omega⟩, rfl⟩
  · refine row_of_block h.hg _ _ _ rfl (by simp [mkM]) (fun i x hi => ?_)
    have hi2 : [(⟨127, true, 5⟩ : GlobP), ⟨126, true, -5⟩][i]? = some x := hi
    match i, hi2 with
    | 0, hi2 => obtain rfl := Option.some.inj hi2; exact ⟨rfl, rfl⟩
    | 1, hi2 => obtain rfl := Option.some.inj hi2; exact ⟨rfl, rfl⟩
    | i + 2, hi2 => simp at hi2
  · refine row_of_block h.hd _ _ _ rfl (by simp [mkM]) (fun i x hi => ?_)
    obtain ⟨rfl, rfl⟩ := one_row hi
    exact ⟨⟨rfl, (show 10 ≤ 9223372036854775807 by decide)⟩, rfl⟩
theorem mems_block {w : World} {b : Nat} {a c : Int} (h : w.heap[b]? = some (.cells #[.int .i64 a, .int .i64 c] 47 (0, 0))) : MemsAt w (.slice (some ⟨b, 0, none⟩) 1 1) [⟨a, c⟩] := by
  refine row_of_block h _ _ _ rfl (by simp) (fun i x hi => ?_)
  obtain ⟨rfl, rfl⟩ := one_row hi
  exact ⟨rfl, rfl⟩
theorem exps_block {w : World} {b : Nat} (h : w.heap[b]? = some (.cells #[.string ⟨#[102]⟩, .int .i64 0, .int .i64 0] 45 (0, 0))) : ExpsAt w (.slice (some ⟨b, 0, none⟩) 1 1) [expF] := by
  refine row_of_block h _ _ _ rfl (by simp) (fun i x hi => ?_)
  obtain ⟨rfl, rfl⟩ := one_row hi
  exact ⟨⟨rfl, (show 1 ≤ 9223372036854775807 by decide)⟩, rfl⟩
theorem own_list {α : Type} {w : World} {B : Nat} {e : TypeId} {size : Nat} {v : Value} {l : List α} {c : α → List Value} {R : World → List Value → α → Prop} (h : OwnAt w B e size v (l.map c)) (hs : 0 < size) (hl : l.length ≤ 1000000000) (hR : ∀ x ∈ l, R w (c x) x) : ListAt size R w v l := by
  refine ⟨l.map c, h.row hs (by rw [List.length_map]; omega), by rw [List.length_map], fun i r x hr hx => ?_⟩
  rw [List.getElem?_map, hx] at hr
  obtain rfl := Option.some.inj hr
  exact hR x (List.mem_of_getElem? hx)
/-- a block of one thing is an own row -/
theorem own_one {W : World} {b : Nat} {cs : Array Value} {e : TypeId} (h : W.heap[b]? = some (.cells cs e (0, 0))) (l : List (List Value)) (size n : Nat) (hl : ∀ r ∈ l, r.length = size) (hcs : cs.toList = l.flatten) (hn : n = l.length) (hm : n ≤ 1000000) : OwnAt W b e size (.slice (some ⟨b, 0, none⟩) n n) l := by
  subst hn
  have hfl : l.flatten.length = l.length * size := flat_len _ hl
  have hsz : cs.size = l.length * size := by rw [← Array.length_toList, hcs, hfl]
  refine ⟨⟨hfl, .inr ⟨b, l.length, cs, rfl, Nat.le_refl _, h, Nat.le_refl _, ?_, hsz, ?_⟩⟩, hl⟩
  · unfold maxLen; omega
  · rw [hcs, List.take_of_length_le (by omega)]
theorem ty_exp : TyOk 28 45 3 32 := by
  obtain ⟨i0, hi, hz0, hz1, hz2⟩ := info_of (show (Tryz.prog.info? 45).map (fun i => (i.zero, i.size, i.bytes)) = some (some (.agg #[.string ⟨#[]⟩, .int .i64 0, .int .i64 0]), 3, 32) by kernel_rfl)
  exact ⟨Tryz.underlying28, ⟨i0, _, hi, hz0, hz1, hz2, rfl⟩, by decide⟩
theorem ty_mem : TyOk 26 47 2 16 := by
  obtain ⟨i0, hi, hz0, hz1, hz2⟩ := info_of (show (Tryz.prog.info? 47).map (fun i => (i.zero, i.size, i.bytes)) = some (some (.agg #[.int .i64 0, .int .i64 0]), 2, 16) by kernel_rfl)
  exact ⟨Tryz.underlying26, ⟨i0, _, hi, hz0, hz1, hz2, rfl⟩, by decide⟩
theorem ListAt.take {α : Type} {size : Nat} {R : World → List Value → α → Prop} {w : World} {la : Option Addr} {n c : Nat} {l : List α} (h : ListAt size R w (.slice la n c) l) (k m : Nat) (hm : m = (l.take k).length) : ListAt size R w (.slice la m c) (l.take k) := by
  obtain ⟨la', c', hv, hle, hx⟩ := h.form
  simp only [Value.slice.injEq] at hv
  obtain ⟨rfl, _, rfl⟩ := hv
  subst hm
  refine ListAt.mk (by rw [List.length_take]; omega) (fun i x hi => hx i x ?_)
  rw [List.getElem?_take] at hi
  split at hi
  · exact hi
  · cases hi
end Go.Proofs.YthcjgdmmpopplaaGreatDoor.Vld
