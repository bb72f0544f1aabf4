/-
  The law of runs. No condition beyond what each theorem names.
-/
import Derived.Test.YtofepnojhghnnaaGreatDoorEnD
namespace Go.Proofs.YtofepnojhghnnaaGreatDoor.Enc
open Go.RowKit Go.Maps Go.Proofs.YtofepnojhghnnaaGreatDoor.Op Go.Proofs.YtofepnojhghnnaaGreatDoor.Mod Go.Proofs.YtofepnojhghnnaaGreatDoor.Leb Go.Proofs.YtofepnojhghnnaaGreatDoor.Bytes Go.Proofs.YtofepnojhghnnaaGreatDoor.Pg
set_option linter.unusedVariables false
theorem rep_more (l : List (Nat × UInt8)) (k : Nat) (b : UInt8) : ∀ n, (List.replicate n b).foldl runStep (l ++ [(k, b)]) = l ++ [(k + n, b)]
  | 0 => rfl
  | n + 1 => by
    rw [List.replicate_succ, List.foldl_cons, step_more, rep_more l (k + 1) b n]
    congr 3
    omega
theorem rep_new (l : List (Nat × UInt8)) (b : UInt8) (n : Nat) (h : ∀ m k, l.getLast? = some (m, k) → k ≠ b) : (List.replicate (n + 1) b).foldl runStep l = l ++ [(n + 1, b)] := by
  rw [List.replicate_succ, List.foldl_cons, step_new h, rep_more]
  congr 3
  omega
theorem num1 {n : Nat} (h : n < 128) : (numL (n : Int)).length = 1 := by
  have h1 : ((n : Int) % 18446744073709551616).toNat = n := by omega
  have h2 := putU_len 10 n 0 (by simpa using h) (by decide)
  have h3 := num_pos (n : Int)
  unfold numL at h3 ⊢
  rw [h1] at h3 ⊢
  omega
theorem runs_len {rs : List (Nat × UInt8)} (hl : rs.length < 128) (h : ∀ r ∈ rs, r.1 < 128) : (listL runL rs).length = 1 + 2 * rs.length := by
  have key : ∀ l : List (Nat × UInt8), (∀ r ∈ l, r.1 < 128) → (l.flatMap runL).length = 2 * l.length := by
    intro l
    induction l with
    | nil => intro _; rfl
    | cons r l ih =>
      intro hr
      rw [List.flatMap_cons, List.length_append, ih (fun x hx => hr x (List.mem_cons_of_mem _ hx)), List.length_cons]
      unfold runL
      rw [List.length_append, num1 (hr r (List.mem_cons_self ..))]
      simp
      omega
  unfold listL
  rw [List.length_append, key rs h, num1 hl]
theorem text_len1 {l : List UInt8} (h : l.length < 128) : (textL l).length = l.length + 1 := by
  unfold textL
  rw [List.length_append, num1 h]
  omega
theorem text_le (l : List UInt8) : (textL l).length ≤ l.length + 10 := by
  unfold textL
  rw [List.length_append]
  have := num_len (l.length : Nat)
  omega
def modR (s : ByteArray) : ModP := ⟨[⟨⟨#[]⟩, ⟨#[]⟩⟩], [⟨0, s, [⟨11, 0, 0, []⟩]⟩], [], [], [], -1, []⟩
theorem right_modR (s : ByteArray) : rightM (modR s) = typesB s 4096 := by
  have h1 : structB [] (opsOf [⟨11, 0, 0, []⟩]) = true := by decide
  have h2 : ([⟨11, 0, 0, []⟩] : List InsL).all rightIns = true := by kernel_rfl
  have h3 : rightFunc ⟨0, s, [⟨11, 0, 0, []⟩]⟩ = typesB s 4096 := by
    unfold rightFunc
    dsimp only
    rw [h1, h2, show wordB 0 = true by decide]
    simp
  have h4 : allB [(⟨0, s, [⟨11, 0, 0, []⟩]⟩ : FuncP)] rightFunc = typesB s 4096 := by
    unfold allB
    simp [h3]
  unfold rightM modR
  dsimp only
  rw [h4, show allB [(⟨⟨#[]⟩, ⟨#[]⟩⟩ : FT)] rightFT = true by decide, show allB ([] : List MemP) rightMem = true from rfl, show allB ([] : List GlobP) rightGlob = true from rfl, show allB ([] : List ExpP) rightExp = true from rfl, show allB ([] : List DataP) rightData = true from rfl]
  simp
theorem ins11 : insL ⟨11, 0, 0, []⟩ = [11] := by kernel_rfl
theorem sect1R : (sectL 1 1 (listL ftL [⟨⟨#[]⟩, ⟨#[]⟩⟩])).length = 6 := by kernel_rfl
theorem sect3R : (sectL 3 1 (listL (fun f => numL f.ty) [(⟨0, ⟨#[]⟩, []⟩ : FuncP)])).length = 4 := by kernel_rfl
theorem modR_len (s : ByteArray) (r : Nat) (hr : r ≤ 10) (h : (localsL s.data.toList).length = 1 + 2 * r) : (modL (modR s)).length = 24 + 2 * r := by
  have hc : (listL codeL (modR s).funcs).length = 2 + (2 + 2 * r) := by
    show (listL codeL [⟨0, s, [⟨11, 0, 0, []⟩]⟩]).length = _
    have h2 : (localsL s.data.toList ++ [11]).length = 2 + 2 * r := by rw [List.length_append, h]; simp; omega
    have h3 : codeL ⟨0, s, [⟨11, 0, 0, []⟩]⟩ = textL (localsL s.data.toList ++ [11]) := by
      unfold codeL
      rw [List.flatMap_cons, List.flatMap_nil, List.append_nil, ins11]
    unfold listL
    rw [List.length_append, List.flatMap_cons, List.flatMap_nil, List.append_nil, h3, text_len1 (by omega), h2]
    rw [show (numL (([(⟨0, s, [⟨11, 0, 0, []⟩]⟩ : FuncP)] : List FuncP).length : Nat)).length = 1 from num1 (by show 1 < 128; decide)]
    omega
  have h10 : (sectL 10 (modR s).funcs.length (listL codeL (modR s).funcs)).length = 2 + (4 + 2 * r) := by
    unfold sectL
    rw [if_neg (by simp [modR]), List.length_cons, text_len1 (by omega), hc]
    omega
  have h3 : (sectL 3 (modR s).funcs.length (listL (fun f => numL f.ty) (modR s).funcs)).length = 4 := sect3R
  have h1 : (sectL 1 (modR s).types.length (listL ftL (modR s).types)).length = 6 := sect1R
  rw [modL_eq]
  simp only [List.length_append]
  rw [h10, h3, h1]
  have e5 : (sectL 5 (modR s).memory.length (listL memL (modR s).memory)).length = 0 := rfl
  have e6 : (sectL 6 (modR s).globals.length (listL globL (modR s).globals)).length = 0 := rfl
  have e7 : (sectL 7 (modR s).exports.length (listL expL (modR s).exports)).length = 0 := rfl
  have e8 : (sectL 8 (if (modR s).start = -1 then 0 else 1) (numL (modR s).start)).length = 0 := rfl
  have e11 : (sectL 11 (modR s).data.length (listL dataL (modR s).data)).length = 0 := rfl
  have em : magicL.length = 8 := rfl
  omega
def sizeR (s : ByteArray) : Int := if (encM (modR s)).2 = 0 then ((encM (modR s)).1.length : Int) else 0
theorem sizeR_yes {s : ByteArray} {r : Nat} (hr : r ≤ 10) (h : (localsL s.data.toList).length = 1 + 2 * r) (ht : typesB s 4096 = true) : sizeR s = 24 + 2 * (r : Int) := by
  have hl := modR_len s r hr h
  have e : encM (modR s) = (modL (modR s), 0) := by unfold encM; rw [right_modR, ht, if_pos rfl, if_pos (by omega)]
  unfold sizeR
  rw [e, if_pos rfl, hl]
  omega
theorem sizeR_no {s : ByteArray} (ht : typesB s 4096 = false) : sizeR s = 0 := by
  have e : encM (modR s) = ([], 1) := by unfold encM; rw [right_modR, ht, if_neg (by decide)]
  unfold sizeR
  rw [e, if_neg (by decide)]
def rep (n : Nat) (b : UInt8) : ByteArray := bs (List.replicate n b)
theorem types_bs {l : List UInt8} (hl : l.length ≤ 4096) (h : ∀ c ∈ l, c = 127 ∨ c = 126) : typesB (bs l) 4096 = true := by
  unfold typesB
  rw [bs_size, bs_data, decide_eq_true (by omega), Bool.true_and, List.all_eq_true]
  intro c hc
  rcases h c hc with rfl | rfl <;> rfl
theorem size0 : sizeR ⟨#[]⟩ = 24 := sizeR_yes (r := 0) (by decide) (by kernel_rfl) (by decide)
theorem sizeD : sizeR ⟨#[125]⟩ = 0 := sizeR_no (by decide)
theorem rep_in {n : Nat} {b c : UInt8} (hb : b = 127 ∨ b = 126) (h : c ∈ List.replicate n b) : c = 127 ∨ c = 126 := by
  rw [(List.mem_replicate.1 h).2]; exact hb
theorem size1 {n : Nat} (h : n < 100) : sizeR (rep (n + 1) 127) = 26 := by
  have hr : runsOf (List.replicate (n + 1) 127) = [(n + 1, 127)] := rep_new [] 127 n (fun m k h => by cases h)
  refine sizeR_yes (r := 1) (by decide) ?_ (types_bs (by simp; omega) (fun c hc => rep_in (.inl rfl) hc))
  unfold rep localsL
  rw [bs_data, hr, runs_len (by simp) (fun r hr => by rw [List.mem_singleton.1 hr]; show n + 1 < 128; omega)]
  rfl
theorem size2 {n m : Nat} (h : n < 100) (h2 : m < 100) : sizeR (rep (n + 1) 127 ++ rep (m + 1) 126) = 28 := by
  have hr : runsOf (List.replicate (n + 1) 127 ++ List.replicate (m + 1) 126) = [(n + 1, 127), (m + 1, 126)] := by
    unfold runsOf
    rw [List.foldl_append, rep_new [] 127 n (fun m k h => by cases h), rep_new _ 126 m (fun m k h => by simp at h; rw [← h.2]; decide)]
    rfl
  unfold rep
  rw [bs_app]
  refine sizeR_yes (r := 2) (by decide) ?_ (types_bs (by simp; omega) (fun c hc => (List.mem_append.1 hc).elim (rep_in (.inl rfl)) (rep_in (.inr rfl))))
  unfold localsL
  rw [bs_data, hr, runs_len (by simp) (fun r hr => by simp at hr; rcases hr with rfl | rfl; (show n + 1 < 128; omega); (show m + 1 < 128; omega))]
  rfl
theorem size3 {n m k : Nat} (h : n < 100) (h2 : m < 100) (h3 : k < 100) : sizeR (rep (n + 1) 127 ++ rep (m + 1) 126 ++ rep (k + 1) 127) = 30 := by
  have hr : runsOf (List.replicate (n + 1) 127 ++ List.replicate (m + 1) 126 ++ List.replicate (k + 1) 127) = [(n + 1, 127), (m + 1, 126), (k + 1, 127)] := by
    unfold runsOf
    rw [List.foldl_append, List.foldl_append, rep_new [] 127 n (fun m k h => by cases h), rep_new _ 126 m (fun m k h => by simp at h; rw [← h.2]; decide), rep_new _ 127 k (fun m k h => by simp at h; rw [← h.2]; decide)]
    rfl
  unfold rep
  rw [bs_app, bs_app]
  refine sizeR_yes (r := 3) (by decide) ?_ (types_bs (by simp; omega) (fun c hc => (List.mem_append.1 hc).elim (fun hc => (List.mem_append.1 hc).elim (rep_in (.inl rfl)) (rep_in (.inr rfl))) (rep_in (.inl rfl))))
  unfold localsL
  rw [bs_data, hr, runs_len (by simp) (fun r hr => by simp at hr; rcases hr with rfl | rfl | rfl; (show n + 1 < 128; omega); (show m + 1 < 128; omega); (show k + 1 < 128; omega))]
  rfl
theorem wok_modR {s : ByteArray} (hs : s.size ≤ 1000000000) : WOk (modR s) := by
  refine ⟨fun p hp => ?_, fun p hp => (by cases hp), fun p hp => (by cases hp), fun p hp => (by cases hp), fun f hf x hx => ?_, fun f hf => ?_, fun f hf x hx => ?_, by show 1 < _; decide⟩
  · rw [List.mem_singleton.1 hp]; decide
  · rw [List.mem_singleton.1 hf] at hx
    rw [List.mem_singleton.1 hx]
    exact ⟨by show (Lit.int .i64 11).wf = true; decide, by show (Lit.int .i64 0).wf = true; decide, by show (Lit.int .i64 0).wf = true; decide, by decide, fun z hz => by cases hz⟩
  · rw [List.mem_singleton.1 hf]; show s.size ≤ _; omega
  · rw [List.mem_singleton.1 hf] at hx
    rw [List.mem_singleton.1 hx]; decide
theorem locals_le (s : ByteArray) : (localsL s.data.toList).length ≤ 10 + 11 * s.size := by
  have gen : ∀ (l : List UInt8) (acc : List (Nat × UInt8)), (l.foldl runStep acc).length ≤ acc.length + l.length := by
    intro l
    induction l with
    | nil => intro acc; exact Nat.le_refl _
    | cons b l ih =>
      intro acc
      rw [List.foldl_cons, List.length_cons]
      have h1 := ih (runStep acc b)
      have h2 : (runStep acc b).length ≤ acc.length + 1 := by
        unfold runStep
        split
        · split
          · simp only [List.length_append, List.length_dropLast, List.length_cons, List.length_nil]; omega
          · simp
        · simp
      omega
  have key : ∀ l : List UInt8, (runsOf l).length ≤ l.length := fun l => by have := gen l []; simpa [runsOf] using this
  unfold localsL listL
  rw [List.length_append]
  have h1 := num_len ((runsOf s.data.toList).length : Nat)
  have h2 := flat_runs_len (runsOf s.data.toList)
  have h3 := key s.data.toList
  have e : s.data.toList.length = s.size := rfl
  omega
theorem modR_le (s : ByteArray) (hs : s.size ≤ 1000000000) : (modL (modR s)).length ≤ 140737488350000 := by
  rw [modL_eq]
  simp only [List.length_append]
  have h3 : (sectL 3 (modR s).funcs.length (listL (fun f => numL f.ty) (modR s).funcs)).length = 4 := sect3R
  have h1 : (sectL 1 (modR s).types.length (listL ftL (modR s).types)).length = 6 := sect1R
  have hc : (listL codeL (modR s).funcs).length ≤ 40 + 11 * s.size := by
    show (listL codeL [⟨0, s, [⟨11, 0, 0, []⟩]⟩]).length ≤ _
    have h3 : codeL ⟨0, s, [⟨11, 0, 0, []⟩]⟩ = textL (localsL s.data.toList ++ [11]) := by
      unfold codeL
      rw [List.flatMap_cons, List.flatMap_nil, List.append_nil, ins11]
    unfold listL
    rw [List.length_append, List.flatMap_cons, List.flatMap_nil, List.append_nil, h3]
    have a1 := text_le (localsL s.data.toList ++ [11])
    have a2 := num_len (([(⟨0, s, [⟨11, 0, 0, []⟩]⟩ : FuncP)] : List FuncP).length : Nat)
    have a3 := locals_le s
    rw [List.length_append, show ([11] : List UInt8).length = 1 from rfl] at a1
    omega
  have h10 : (sectL 10 (modR s).funcs.length (listL codeL (modR s).funcs)).length ≤ 60 + 11 * s.size := by
    unfold sectL
    rw [if_neg (by simp [modR]), List.length_cons]
    have a1 := text_le (listL codeL (modR s).funcs)
    omega
  have e5 : (sectL 5 (modR s).memory.length (listL memL (modR s).memory)).length = 0 := rfl
  have e6 : (sectL 6 (modR s).globals.length (listL globL (modR s).globals)).length = 0 := rfl
  have e7 : (sectL 7 (modR s).exports.length (listL expL (modR s).exports)).length = 0 := rfl
  have e8 : (sectL 8 (if (modR s).start = -1 then 0 else 1) (numL (modR s).start)).length = 0 := rfl
  have e11 : (sectL 11 (modR s).data.length (listL dataL (modR s).data)).length = 0 := rfl
  have em : magicL.length = 8 := rfl
  omega
set_option maxRecDepth 100000 in
set_option maxHeartbeats 2000000 in
theorem size_any (s : ByteArray) (w : World) (hE : MEnv w) (hs : s.size ≤ 100000) : Calls Tryz.prog 13 #[.string s] w fun e w' => e = .returned (.int .i64 (sizeR s)) ∧ Below w.heap.size w w' := by
  obtain ⟨W1, hW1⟩ : ∃ W1, w.alloc (.cells #[.string ⟨#[]⟩, .string ⟨#[]⟩] 51) = W1 := ⟨_, rfl⟩
  obtain ⟨W2, hW2⟩ : ∃ W2, W1.alloc (.cells #[.int .i64 11, .int .i64 0, .int .i64 0, .slice none 0 0] 33) = W2 := ⟨_, rfl⟩
  obtain ⟨W3, hW3⟩ : ∃ W3, W2.alloc (.cells #[.int .i64 0, .string s, .slice (some ⟨W1.heap.size, 0, none⟩) 1 1] 46) = W3 := ⟨_, rfl⟩
  have z1 : W1.heap.size = w.heap.size + 1 := by rw [← hW1]; simp
  have z2 : W2.heap.size = w.heap.size + 2 := by rw [← hW2]; simp; omega
  have z3 : W3.heap.size = w.heap.size + 3 := by rw [← hW3]; simp; omega
  have B1 : Below w.heap.size w W1 := by rw [← hW1]; exact (Below.refl _ _).alloc (Nat.le_refl _) _
  have B2 : Below W1.heap.size W1 W2 := by rw [← hW2]; exact (Below.refl _ _).alloc (Nat.le_refl _) _
  have B3 : Below W2.heap.size W2 W3 := by rw [← hW3]; exact (Below.refl _ _).alloc (Nat.le_refl _) _
  have BB := Lib.hid ((B1.trans (B2.mono (by omega))).trans (B3.mono (by omega)))
  have hft : W3.heap[w.heap.size]? = some (.cells #[.string ⟨#[]⟩, .string ⟨#[]⟩] 51 (0, 0)) := (B3.block _ (by omega)).trans ((B2.block _ (by omega)).trans (by rw [← hW1]; exact heap_alloc_new _ _))
  have hin : W3.heap[W1.heap.size]? = some (.cells #[.int .i64 11, .int .i64 0, .int .i64 0, .slice none 0 0] 33 (0, 0)) := (B3.block _ (by omega)).trans (by rw [← hW2]; exact heap_alloc_new _ _)
  have hfn : W3.heap[W2.heap.size]? = some (.cells #[.int .i64 0, .string s, .slice (some ⟨W1.heap.size, 0, none⟩) 1 1] 46 (0, 0)) := by rw [← hW3]; exact heap_alloc_new _ _
  have hcode : CodeAt W3 (.slice (some ⟨W1.heap.size, 0, none⟩) 1 1) [⟨11, 0, 0, []⟩] := row_of_block (R := isIns) hin [⟨11, 0, 0, []⟩] 1 1 rfl (by simp) (fun i x hx => by
    have hi := (List.getElem?_eq_some_iff.1 hx).1
    obtain rfl : i = 0 := by simp at hi; exact hi
    obtain rfl := Option.some.inj hx
    exact ⟨⟨.slice none 0 0, rfl, .inl ⟨rfl, rfl⟩, by decide⟩, rfl⟩)
  have hM : ModAt W3 (.slice (some ⟨w.heap.size, 0, none⟩) 1 1) (.slice (some ⟨W2.heap.size, 0, none⟩) 1 1) (.slice none 0 0) (.slice none 0 0) (.slice none 0 0) (-1) (.slice none 0 0) (modR s) := by
    refine ⟨row_of_block (R := isFT) hft [⟨⟨#[]⟩, ⟨#[]⟩⟩] 1 1 rfl (by simp) (fun i x hx => ?_), row_of_block (R := isFunc) hfn [⟨0, s, [⟨11, 0, 0, []⟩]⟩] 1 1 rfl (by simp) (fun i x hx => ?_), list_nil _, list_nil _, list_nil _, rfl, list_nil _⟩
    · have hi := (List.getElem?_eq_some_iff.1 hx).1
      obtain rfl : i = 0 := by simp at hi; exact hi
      obtain rfl := Option.some.inj hx
      exact ⟨⟨rfl, by decide, by decide⟩, rfl⟩
    · have hi := (List.getElem?_eq_some_iff.1 hx).1
      obtain rfl : i = 0 := by simp at hi; exact hi
      obtain rfl := Option.some.inj hx
      exact ⟨⟨_, rfl, hcode, by show s.size ≤ _; omega, by show 1 * 48 ≤ _; decide⟩, rfl⟩
  have hcall := enc_own _ _ _ _ _ _ _ _ W3 (hE.later BB.out) hM (fun _ => wok_modR (by omega)) (fun _ => modR_le s (by omega))
  obtain ⟨S, hS⟩ : ∃ S, bs (encM (modR s)).1 = S := ⟨_, rfl⟩
  obtain ⟨E, hE2⟩ : ∃ E, (encM (modR s)).2 = E := ⟨_, rfl⟩
  rw [hS, hE2] at hcall
  have HL := Lib.hid (show sizeR s = if E = 0 then (S.size : Int) else 0 by unfold sizeR; rw [← hE2, ← hS, bs_size])
  obtain ⟨R, hR⟩ : ∃ R, sizeR s = R := ⟨_, rfl⟩
  rw [hR] at HL ⊢
  have HC := Lib.hid hcall
  have HW1 := Lib.hid hW1
  have HW2 := Lib.hid hW2
  have HW3 := Lib.hid hW3
  unfold modV at HC
  rw [z1] at HW3 
  rw [z2] at HC
  have HZ1 := Lib.hid z1
  clear hE hcall hS hE2 hR hM hcode hft hin hfn B1 B2 B3 hW1 hW2 hW3 hs
  by_cases hz : E = 0
  · have hR2 : R = S.size := by rw [HL.out, if_pos hz]
    subst hz
    subst hR2
    go_enter Tryz.func13, Tryz.ntmps13
    go_wp2_with fail
    simp only [HW1.out, HW2.out, HW3.out]
    refine HC.out.mono ?_
    rintro e w2 ⟨rfl, c2⟩
    have HF := Lib.hid (BB.out.trans (c2.mono BB.out.size))
    clear c2
    go_wp2_with fail
    go_ret
    exact ⟨rfl, HF.out⟩
  · have hR2 : R = 0 := by rw [HL.out, if_neg hz]
    subst hR2
    have h1 : (E == 0) = false := by rw [beq_eq_false_iff_ne]; exact hz
    have h2 : (E != 0) = true := by rw [bne, h1]; rfl
    clear hz
    go_enter Tryz.func13, Tryz.ntmps13
    go_wp2_with fail
    simp only [HW1.out, HW2.out, HW3.out]
    refine HC.out.mono ?_
    rintro e w2 ⟨rfl, c2⟩
    have HF := Lib.hid (BB.out.trans (c2.mono BB.out.size))
    clear c2
    go_wp2_with fail
    go_ret
    exact ⟨rfl, HF.out⟩
end Go.Proofs.YtofepnojhghnnaaGreatDoor.Enc
