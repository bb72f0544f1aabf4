/-
  THE STATEMENT ValueOrders (its card): for every input the law returns true, and each argument reads as it did; the listed variables as the program lays them. The frame is the guide's own (UptoLaidToy); the walk stands in the texts that are imported.
-/
import Derived.Test.YtafnjkeljjeamaaDoorCards
import Derived.Test.YtafnjkeljjeamaaDoorTie
import Derived.Test.YtafnjkeljjeamaaDoorValOrders
import Derived.Test.YtafnjkeljjeamaaDoorWf
import Derived.Test.YtafnjkeljjeamaaDoorValEnv
import Derived.Test.YtafnjkeljjeamaaDoorValWit
import Derived.WalkKit
import Derived.ProofKit
import Derived.OpenShut
import Derived.ShutString
import Derived.ChangeOld
import Derived.Below
import Derived.Deep.DeepHandedRow
import Derived.Lib.LaidTab
import Derived.Lib.LaidRTab
import Derived.Lib.LaidPrint
import Derived.PinnedBridge
import Derived.Deep.DeepWitnessRowRef
import Derived.Deep.DeepLaidRun
import Derived.Lib.SmallJoins
import Derived.Carry
namespace Go.Proofs.YtafnjkeljjeamaaDoor.valueOrdersLaw
open Go.ChangeShapes Go.WideShapes Go.ChangeAt Go.RowKit
set_option linter.unusedVariables false
theorem own : ownKnob Tryd.prog.godebug = none := by kernel_rfl
set_option maxRecDepth 100000 in
theorem contract (H : Type) (enc : TypeId × Value → H) (W : World) (base : Nat) (args : Array Value) (ds gs : List (DataW H)) (before : List MemPlace)
    (hval0 : ∀ (j : Nat) t v, Tryd.f9.params[j]? = some t → args[j]? = some v → Value.okWide Tryd.prog W .any base t v)
    (hW : DataW.Whole enc Tryd.prog Tryd.f9.params.toList Rows.valueOrdersSpec.vars false W args.toList ds gs before) (hL : laidMetH Tryd.prog Rows.valueOrdersRow.laid W) (hsh : W.ShapedOpen Tryd.prog) :
    Calls Tryd.prog 9 args W fun e W' => ∃ v, e = .returned v ∧ Rows.valueOrdersSpec.post enc Tryd.prog Tryd.f9 false true false false W args v W' := by
  have hval : ∀ (j : Nat) t v, Tryd.f9.params[j]? = some t → args[j]? = some v → Value.okWide Tryd.prog W .any base t v := hval0
  have hW' := hW
  obtain ⟨p, q, hA0, hV, rfl, hfz, hnd⟩ := hW
  have hA : DataW.TrodAll enc Tryd.prog W 0 (fun _ => true) true Tryd.f9.params.toList args.toList ds p := hA0
  rw [Tryd.params9] at hA hval
  obtain ⟨v0, vs0, d0, ds0, p0, q0, hargs, rfl, rfl, h0, r0⟩ := trodAll_cons hA
  obtain ⟨v1, vs1, d1, ds1, p1, q1, rfl, rfl, rfl, h1, r1⟩ := trodAll_cons r0
  obtain ⟨v2, vs2, d2, ds2, p2, q2, rfl, rfl, rfl, h2, r2⟩ := trodAll_cons r1
  obtain ⟨v3, vs3, d3, ds3, p3, q3, rfl, rfl, rfl, h3, r3⟩ := trodAll_cons r2
  obtain ⟨v4, vs4, d4, ds4, p4, q4, rfl, rfl, rfl, h4, r4⟩ := trodAll_cons r3
  obtain ⟨rfl, rfl, rfl⟩ := trodAll_nil r4
  obtain rfl : args = #[v0, v1, v2, v3, v4] := by cases args; simp_all
  obtain ⟨rfl, rfl⟩ := trodVars_none hV
  have hlt0 := hA.lt
  have hk0 := h0
  obtain ⟨t0u0, t0u1, t0u2, t0y0, t0y1, t0y2, t0m, rfl, hd0, hp0, t0z0, t0z1, t0z2⟩ := Go.Joins.open_agg3 Tryd.underlying25 (by kernel_rfl) (by kernel_rfl) (hval 0 25 v0 rfl rfl) h0
  obtain ⟨b0, t0e0, t0g0⟩ := DataW.trod_bool Tryd.underlying4 t0z0
  obtain rfl : t0u0 = .bool b0 := by simpa using t0e0
  obtain ⟨n0, t0e1, t0g1, wn0⟩ := DataW.trod_int Tryd.underlying2 t0z1
  obtain rfl : t0u1 = .int .i64 n0 := by simpa using t0e1
  obtain ⟨S0, t0e2, t0g2, wS0⟩ := DataW.trod_string Tryd.underlying9 t0z2
  obtain rfl : t0u2 = .string S0 := by simpa using t0e2
  have hk1 := h1
  obtain ⟨t1u0, t1u1, t1u2, t1y0, t1y1, t1y2, t1m, rfl, hd1, hp1, t1z0, t1z1, t1z2⟩ := Go.Joins.open_agg3 Tryd.underlying25 (by kernel_rfl) (by kernel_rfl) (hval 1 25 v1 rfl rfl) h1
  obtain ⟨b1, t1e0, t1g0⟩ := DataW.trod_bool Tryd.underlying4 t1z0
  obtain rfl : t1u0 = .bool b1 := by simpa using t1e0
  obtain ⟨n1, t1e1, t1g1, wn1⟩ := DataW.trod_int Tryd.underlying2 t1z1
  obtain rfl : t1u1 = .int .i64 n1 := by simpa using t1e1
  obtain ⟨S1, t1e2, t1g2, wS1⟩ := DataW.trod_string Tryd.underlying9 t1z2
  obtain rfl : t1u2 = .string S1 := by simpa using t1e2
  have hk2 := h2
  obtain ⟨t2u0, t2u1, t2u2, t2y0, t2y1, t2y2, t2m, rfl, hd2, hp2, t2z0, t2z1, t2z2⟩ := Go.Joins.open_agg3 Tryd.underlying25 (by kernel_rfl) (by kernel_rfl) (hval 2 25 v2 rfl rfl) h2
  obtain ⟨b2, t2e0, t2g0⟩ := DataW.trod_bool Tryd.underlying4 t2z0
  obtain rfl : t2u0 = .bool b2 := by simpa using t2e0
  obtain ⟨n2, t2e1, t2g1, wn2⟩ := DataW.trod_int Tryd.underlying2 t2z1
  obtain rfl : t2u1 = .int .i64 n2 := by simpa using t2e1
  obtain ⟨S2, t2e2, t2g2, wS2⟩ := DataW.trod_string Tryd.underlying9 t2z2
  obtain rfl : t2u2 = .string S2 := by simpa using t2e2
  obtain ⟨a3, rfl, rfl, rfl, w3⟩ := open_int Tryd.underlying5 (hval 3 5 v3 rfl rfl) h3
  obtain ⟨a4, rfl, rfl, rfl⟩ := open_bool Tryd.underlying4 (hval 4 4 v4 rfl rfl) h4
  clear hA0 hval0
  simp only [List.append_nil] at hW'
  refine Calls.mono (R := fun e w' => e = .returned (.bool true) ∧ Below W.heap.size W w') (by obtain ⟨o, rfl⟩ := Val.u8_of w3; exact Val.orders_walk b0 b1 b2 n0 n1 n2 S0 S1 S2 o a4 (Val.i64_of wn0) (Val.i64_of wn1) (Val.i64_of wn2) W (Val.venv_of W hL hsh)) fun e W' ⟨he, bel⟩ => ?_
  subst he
  exact ⟨_, rfl, _, _, _, [], _, [], hW', trodAll_mk1 (shut_bool Tryd.underlying4 _), (trodAll_cons_mk (Below.trod (by kernel_rfl) (by kernel_rfl) (of_decide_eq_true (by kernel_rfl)) hk0 bel (fun x hx => hlt0 x (by simp [hx]))) (trodAll_cons_mk (Below.trod (by kernel_rfl) (by kernel_rfl) (of_decide_eq_true (by kernel_rfl)) hk1 bel (fun x hx => hlt0 x (by simp [hx]))) (trodAll_cons_mk (Below.trod (by kernel_rfl) (by kernel_rfl) (of_decide_eq_true (by kernel_rfl)) hk2 bel (fun x hx => hlt0 x (by simp [hx]))) (trodAll_cons_mk (shut_int Tryd.underlying5 w3) (trodAll_cons_mk (shut_bool Tryd.underlying4 a4) trodAll_mk0))))), rfl, bel.frame _, fun h => by cases h⟩
noncomputable abbrev laidWorld := Val.laidWorld
theorem reads (os : Os) {H : Type} (enc : TypeId × Value → H) : ∃ places, DataW.whole enc Tryd.prog ((laidWorld os).forCall (fun _ _ => 0) ⟨#[], #[.agg #[.bool false, .int .i64 0, .string ByteArray.empty], .agg #[.bool false, .int .i64 0, .string ByteArray.empty], .agg #[.bool false, .int .i64 0, .string ByteArray.empty], .int .u8 0, .bool false], []⟩).memory Tryd.f9.params.toList Rows.valueOrdersSpec.vars false (#[.agg #[.bool false, .int .i64 0, .string ByteArray.empty], .agg #[.bool false, .int .i64 0, .string ByteArray.empty], .agg #[.bool false, .int .i64 0, .string ByteArray.empty], .int .u8 0, .bool false] : Array Value).toList 8 = some ([.agg [.lit (.bool false), .lit (.int .i64 0), .lit (.string [])], .agg [.lit (.bool false), .lit (.int .i64 0), .lit (.string [])], .agg [.lit (.bool false), .lit (.int .i64 0), .lit (.string [])], .lit (.int .u8 0), .lit (.bool false)], [], places) :=
  ⟨[], by kernel_rfl⟩
set_option maxRecDepth 100000 in
theorem lifted (os : Os) (started : os.Started) (H : Type) (enc : TypeId × Value → H) (F : Stop.Interp) :
    ReturnsInHanded {} Tryd.checked os 9 .any ((OpenSpec.ofChange Rows.valueOrdersSpec).preRow enc Tryd.prog Tryd.f9 Rows.valueOrdersRow.domain false Rows.valueOrdersRow.laid) (((OpenSpec.ofChange Rows.valueOrdersSpec).at F).post enc Tryd.prog Tryd.f9 false true false false) := by
  obtain ⟨places, hx⟩ := reads os enc
  refine returnsInHanded_of_row (C := Tryd.checked) (s := OpenSpec.ofChange Rows.valueOrdersSpec) own started (by kernel_rfl) Tryd.func9
    (witness_row_atRef (enc := enc) (C := Tryd.checked) false (laidWorld os) #[.agg #[.bool false, .int .i64 0, .string ByteArray.empty], .agg #[.bool false, .int .i64 0, .string ByteArray.empty], .agg #[.bool false, .int .i64 0, .string ByteArray.empty], .int .u8 0, .bool false] rfl (by kernel_rfl) (by kernel_rfl) (by kernel_rfl)
      (OpenSpec.preRow_of_cond 8 hx (by kernel_rfl) (fun k hk => by cases hk) (by kernel_rfl) (Val.laid_met os _))) ?_
  intro W base args ds gs before hval hW _ _ _ hL hsh _
  exact contract H enc W base args ds gs before hval hW hL hsh
theorem said : Rows.ValueOrdersSaid :=
  OpenClaim.holds_of_cond 9 Tryd.f9 rfl rfl rfl rfl rfl rfl rfl ⟨rfl, rfl, rfl, rfl, rfl⟩ rfl rfl rfl rfl rfl (by kernel_rfl) Tryd.func9 (by kernel_rfl)
    (of_decide_eq_true (by kernel_rfl)) (by unfold Func.isWrapper; first | (rw [if_pos (by decide +kernel)]; kernel_rfl) | (rw [if_neg (by decide +kernel)]; exact ⟨rfl, rfl⟩))
    (fun os started H enc _ F => by rw [OpenClaim.pre_eq_preRow]; exact lifted os started H enc F)
theorem plain (f : FuncId) (fn : Func) (hf : Tryd.pinned.checked.prog.funcNamed "tuckmill/tuckmilllaw10.ValueOrders" = some f) (hfn : Tryd.pinned.checked.prog.funcs[f]? = some fn) :
    false = Tryd.pinned.checked.prog.looks [] ∧ ∀ (j : Nat) t, fn.params[j]? = some t → Tryd.pinned.checked.prog.wantsStandIn t = false := by
  obtain rfl : f = 9 := Option.some.inj ((show Tryd.prog.funcNamed "tuckmill/tuckmilllaw10.ValueOrders" = some 9 by kernel_rfl).symm.trans hf) |>.symm
  obtain rfl : fn = Tryd.f9 := (Option.some.inj (Tryd.func9.symm.trans hfn)).symm
  refine ⟨by kernel_rfl, fun j t ht => ?_⟩
  rw [Tryd.params9] at ht
  have hm : t = 25 ∨ t = 5 ∨ t = 4 := by have := Array.mem_of_getElem? ht; simp at this; omega
  rcases hm with rfl | rfl | rfl
  · exact (show Tryd.prog.wantsStandIn 25 = false by kernel_rfl)
  · exact (show Tryd.prog.wantsStandIn 5 = false by kernel_rfl)
  · exact (show Tryd.prog.wantsStandIn 4 = false by kernel_rfl)
/-- THE CARD -/
theorem proved : Rows.ValueOrdersCardSaid :=
  Claim7.holds_tied_plain_at .later [] _ _ _ _ said (fun _ h => by cases h) (by kernel_rfl) (fun _ h => by cases h) valueOrders_row_tie rfl ⟨rfl, rfl⟩ (by kernel_rfl) rfl plain (by kernel_rfl)
#print axioms proved
end Go.Proofs.YtafnjkeljjeamaaDoor.valueOrdersLaw
