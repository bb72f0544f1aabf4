/-
  What package enc writes of a made module, and of its instructions. No condition beyond what each theorem names.
-/
import Derived.Test.YtofepnojhghnnaaGreatDoorEnD
namespace Go.Proofs.YtofepnojhghnnaaGreatDoor.Enc
open Go.RowKit Go.Maps Go.Proofs.YtofepnojhghnnaaGreatDoor.Op Go.Proofs.YtofepnojhghnnaaGreatDoor.Mod Go.Proofs.YtofepnojhghnnaaGreatDoor.Leb Go.Proofs.YtofepnojhghnnaaGreatDoor.Bytes Go.Proofs.YtofepnojhghnnaaGreatDoor.Pg
set_option linter.unusedVariables false
theorem made_len2 (l : List Step) : (madeP l).code.length ≤ 1300 := by
  have hI := Inv.run Inv.start (l.take 60)
  have hI2 : Inv (runP .start (l.take 60)) 1200 := hI.mono (by rw [List.length_take]; omega)
  obtain ⟨hI3, hO3⟩ := shutAll_inv _ _ _ hI2 rfl
  have h1 := (hI3.level (b := ⟨0, 126, 0⟩) (.inr (.inl rfl)) (by unfold topH; rw [hO3]; rfl)).size
  have h2 : (madeP l).code.length = (levelP (shutAll (runP .start (l.take 60)).opens.length (runP .start (l.take 60))) ⟨0, 126, 0⟩).code.length + 1 := by unfold madeP lastP putP; simp
  omega
theorem text_le' (l : List UInt8) : (textL l).length ≤ l.length + 10 := by
  unfold textL
  rw [List.length_append]
  have := num_len (l.length : Nat)
  omega
theorem toL_len {x : Ins} (h : InsWf x) : (insL (toL x)).length ≤ 21 := by
  have hn := fun n => num_len n
  have hs := sgn_len (n := x.a) (by simp [Lit.wf]; exact h.1)
  unfold insL bodyL toL
  dsimp only
  rw [List.length_cons]
  split
  · simp
  split
  · have := num_len x.a; omega
  split
  · unfold listL
    rw [List.flatMap_nil, List.append_nil, List.length_append]
    have h1 := num_len x.a
    have h2 := num_len (([] : List Int).length : Nat)
    omega
  split
  · rw [List.length_append]
    have h1 := num_len x.a
    have h2 := num_len x.b
    omega
  split
  · simp
  split
  · omega
  · simp
theorem flat_len {c : List Ins} (h : ∀ x ∈ c, InsWf x) : ((c.map toL).flatMap insL).length ≤ c.length * 21 := by
  induction c with
  | nil => simp
  | cons x c ih =>
    rw [List.map_cons, List.flatMap_cons, List.length_append, List.length_cons, Nat.add_mul]
    have h1 := ih (fun y hy => h y (List.mem_cons_of_mem _ hy))
    have h2 := toL_len (h x (List.mem_cons_self ..))
    omega
theorem toL_ok {x : Ins} (h : InsWf x) : InsOk (toL x) := by
  obtain ⟨h1, h2, h3, h4⟩ := h
  refine ⟨?_, ?_, ?_, by show 0 * 8 ≤ _; decide, fun z hz => by cases hz⟩
  · show (Lit.int .i64 x.op).wf = true
    simp [Lit.wf, show IntKind.i64.min = -9223372036854775808 by decide, show IntKind.i64.max = 9223372036854775807 by decide]
    omega
  · show (Lit.int .i64 x.a).wf = true
    simp [Lit.wf, show IntKind.i64.min = -9223372036854775808 by decide, show IntKind.i64.max = 9223372036854775807 by decide]
    omega
  · show (Lit.int .i64 x.b).wf = true
    simp [Lit.wf, show IntKind.i64.min = -9223372036854775808 by decide, show IntKind.i64.max = 9223372036854775807 by decide]
    omega
theorem wok_modOf {c : List Ins} (h : ∀ x ∈ c, InsWf x) (hl : c.length ≤ 100000) : WOk (modOf c) := by
  refine ⟨fun p hp => ?_, fun p hp => ?_, fun p hp => ?_, fun p hp => ?_, fun f hf x hx => ?_, fun f hf => ?_, fun f hf x hx => ?_, ?_⟩
  · rw [List.mem_singleton.1 hp]; decide
  · have hp : p ∈ [(⟨127, true, 5⟩ : GlobP), ⟨126, true, -5⟩] := hp
    simp at hp
    rcases hp with rfl | rfl <;> decide
  · rw [List.mem_singleton.1 hp]; decide
  · rw [List.mem_singleton.1 hp]; decide
  · rw [List.mem_singleton.1 hf] at hx
    obtain ⟨y, hy, rfl⟩ := List.mem_map.1 hx
    exact toL_ok (h y hy)
  · rw [List.mem_singleton.1 hf]; show (2 : Nat) ≤ _; decide
  · rw [List.mem_singleton.1 hf] at hx
    obtain ⟨y, hy, rfl⟩ := List.mem_map.1 hx
    show 0 ≤ _; decide
  · show ((([⟨0, ⟨#[127, 126]⟩, c.map toL⟩] : List FuncP).take 1).map fun f => f.code.length).sum < _
    simp
    omega
/-- a made module's bytes, ahead of its code and behind it -/
def preM (n : Nat) : List UInt8 :=
  magicL ++ sectL 1 1 (listL ftL [⟨⟨#[126, 127]⟩, ⟨#[126]⟩⟩]) ++ sectL 3 1 (listL (fun f => numL f.ty) [(⟨0, ⟨#[]⟩, []⟩ : FuncP)]) ++ sectL 5 1 (listL memL [⟨1, 2⟩]) ++ sectL 6 2 (listL globL [⟨127, true, 5⟩, ⟨126, true, -5⟩]) ++ sectL 7 1 (listL expL [⟨⟨#[102]⟩, 0, 0⟩])
def codB (B : List UInt8) : List UInt8 := textL (localsL [127, 126] ++ B)
def dataB : List UInt8 := sectL 11 1 (listL dataL [⟨100, ⟨#[115, 111, 109, 101, 32, 98, 121, 116, 101, 115]⟩⟩])
theorem modOf_bytes (c : List Ins) : modL (modOf c) = preM 0 ++ (10 :: textL (numL 1 ++ codB ((c.map toL).flatMap insL))) ++ dataB := by
  rw [modL_eq]
  have h8 : sectL 8 (if (modOf c).start = -1 then 0 else 1) (numL (modOf c).start) = [] := rfl
  rw [h8, List.append_nil]
  have h10 : sectL 10 (modOf c).funcs.length (listL codeL (modOf c).funcs) = 10 :: textL (numL 1 ++ codB ((c.map toL).flatMap insL)) := by
    have e : listL codeL (modOf c).funcs = numL 1 ++ codB ((c.map toL).flatMap insL) := by
      show numL ((1 : Nat) : Int) ++ [(⟨0, ⟨#[127, 126]⟩, c.map toL⟩ : FuncP)].flatMap codeL = _
      rw [List.flatMap_cons, List.flatMap_nil, List.append_nil]
      rfl
    rw [e]
    unfold sectL
    rw [if_neg (by simp [modOf])]
  rw [h10]
  rfl
theorem preM_len : (preM 0).length = 47 := by kernel_rfl
theorem dataB_len : dataB.length = 19 := by kernel_rfl
theorem loc_len : (localsL [127, 126]).length = 5 := by kernel_rfl
theorem modOf_len {c : List Ins} (h : ∀ x ∈ c, InsWf x) : (modL (modOf c)).length ≤ c.length * 21 + 200 := by
  rw [modOf_bytes]
  simp only [List.length_append, List.length_cons]
  rw [preM_len, dataB_len]
  have h1 := flat_len h
  have h2 := text_le' (numL 1 ++ codB ((c.map toL).flatMap insL))
  have h3 : (codB ((c.map toL).flatMap insL)).length ≤ 5 + ((c.map toL).flatMap insL).length + 10 := by
    unfold codB
    have := text_le' (localsL [127, 126] ++ (c.map toL).flatMap insL)
    rw [List.length_append, loc_len] at this
    exact this
  have h4 := num_len 1
  rw [List.length_append] at h2
  omega
theorem enc_made (l : List Step) (h : ∀ t ∈ l, -9223372036854775808 ≤ t.a ∧ t.a ≤ 9223372036854775807) : encM (modOf (madeP l).code) = (modL (modOf (madeP l).code), 0) := by
  have h1 := modOf_len (made_wf l h)
  have h2 := made_len2 l
  unfold encM
  rw [made_right, if_pos rfl, if_pos (by omega)]
end Go.Proofs.YtofepnojhghnnaaGreatDoor.Enc
