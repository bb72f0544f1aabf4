/-
  The law of not, and, or: the walk. No condition beyond what each theorem names.
-/
import Derived.Test.YtafnjkeljjeamaaDoorValWk2
import Derived.Test.YtafnjkeljjeamaaDoorValK
namespace Go.Proofs.YtafnjkeljjeamaaDoor.Val
open Go.RowKit Go.Maps Go.Lib
set_option linter.unusedVariables false
set_option linter.unusedSimpArgs false
def vaV (b : Bool) (n : Int) : Value := .agg #[.bool b, .int .i64 n, .string ⟨#[]⟩]
def tab3 : Array Value := #[.bool false, .int .i64 0, .string ⟨#[]⟩, .bool true, .int .i64 0, .string ⟨#[]⟩, .bool false, .int .i64 1, .string ⟨#[]⟩]
structure NtK (b : Bool) (n : Int) (b' : Bool) (n' : Int) : Prop where
  h : notP ⟨b, n, ⟨#[]⟩⟩ = ⟨b', n', ⟨#[]⟩⟩
structure AnK (b : Bool) (n : Int) (c : Bool) (m : Int) (b' : Bool) (n' : Int) : Prop where
  h : andP ⟨b, n, ⟨#[]⟩⟩ ⟨c, m, ⟨#[]⟩⟩ = ⟨b', n', ⟨#[]⟩⟩
structure OrK (b : Bool) (n : Int) (c : Bool) (m : Int) (b' : Bool) (n' : Int) : Prop where
  h : orP ⟨b, n, ⟨#[]⟩⟩ ⟨c, m, ⟨#[]⟩⟩ = ⟨b', n', ⟨#[]⟩⟩
theorem not_r (b : Bool) (n : Int) (b' : Bool) (n' : Int) (K : NtK b n b' n') (W : World) : Calls Tryd.prog 22 #[.agg #[.bool b, .int .i64 n, .string ⟨#[]⟩]] W fun e w' => e = .returned (.agg #[.bool b', .int .i64 n', .string ⟨#[]⟩]) ∧ Below W.heap.size W w' := not_any ⟨b, n, ⟨#[]⟩⟩ W _ K.h
theorem and_r (b : Bool) (n : Int) (c : Bool) (m : Int) (b' : Bool) (n' : Int) (K : AnK b n c m b' n') (W : World) : Calls Tryd.prog 23 #[.agg #[.bool b, .int .i64 n, .string ⟨#[]⟩], .agg #[.bool c, .int .i64 m, .string ⟨#[]⟩]] W fun e w' => e = .returned (.agg #[.bool b', .int .i64 n', .string ⟨#[]⟩]) ∧ Below W.heap.size W w' := land_any ⟨b, n, ⟨#[]⟩⟩ ⟨c, m, ⟨#[]⟩⟩ W _ K.h
theorem or_r (b : Bool) (n : Int) (c : Bool) (m : Int) (b' : Bool) (n' : Int) (K : OrK b n c m b' n') (W : World) : Calls Tryd.prog 24 #[.agg #[.bool b, .int .i64 n, .string ⟨#[]⟩], .agg #[.bool c, .int .i64 m, .string ⟨#[]⟩]] W fun e w' => e = .returned (.agg #[.bool b', .int .i64 n', .string ⟨#[]⟩]) ∧ Below W.heap.size W w' := lor_any ⟨b, n, ⟨#[]⟩⟩ ⟨c, m, ⟨#[]⟩⟩ W _ K.h
abbrev HeldL (w : World) (N : Nat) (xb : Bool) (xn : Int) (yb : Bool) (yn : Int) (W : World) : Prop :=
  W.cell? ⟨N, 0, none⟩ = some (.bool false) ∧ W.cell? ⟨N, 1, none⟩ = some (.int .i64 0) ∧ W.cell? ⟨N, 2, none⟩ = some (.string ⟨#[]⟩)
  ∧ W.cell? ⟨N, 6, none⟩ = some (.bool false) ∧ W.cell? ⟨N, 7, none⟩ = some (.int .i64 1) ∧ W.cell? ⟨N, 8, none⟩ = some (.string ⟨#[]⟩)
  ∧ W.cell? ⟨N + 1, 0, none⟩ = some (.bool xb) ∧ W.cell? ⟨N + 1, 1, none⟩ = some (.int .i64 xn) ∧ W.cell? ⟨N + 1, 2, none⟩ = some (.string ⟨#[]⟩)
  ∧ W.cell? ⟨N + 1 + 1, 0, none⟩ = some (.bool yb) ∧ W.cell? ⟨N + 1 + 1, 1, none⟩ = some (.int .i64 yn) ∧ W.cell? ⟨N + 1 + 1, 2, none⟩ = some (.string ⟨#[]⟩) ∧ Below w.heap.size w W
theorem heldL_later {w : World} {N : Nat} {xb : Bool} {xn : Int} {yb : Bool} {yn : Int} {W W' : World} (c : Below W.heap.size W W') (h : HeldL w N xb xn yb yn W) : HeldL w N xb xn yb yn W' := by
  obtain ⟨h0, h1, h2, h3, h4, h5, h6, h7, h8, h9, h10, h11, h12⟩ := h
  exact ⟨cell_later c h0, cell_later c h1, cell_later c h2, cell_later c h3, cell_later c h4, cell_later c h5, cell_later c h6, cell_later c h7, cell_later c h8, cell_later c h9, cell_later c h10, cell_later c h11, h12.trans (c.mono h12.size)⟩
set_option maxRecDepth 100000 in
set_option maxHeartbeats 8000000 in
theorem logic_core (a b : UInt8) (i j : Nat) (ha : (a.toNat : Int) % 3 = (i : Int)) (hb : (b.toNat : Int) % 3 = (j : Int)) (hi : i < 3) (hj : j < 3) (xb yb nxb nyb ab nab : Bool) (xn yn nxn nyn an nan : Int)
    (l1 : tab3[i * 3]? = some (.bool xb)) (l2 : tab3[i * 3 + 1]? = some (.int .i64 xn)) (l3 : tab3[i * 3 + 2]? = some (.string ⟨#[]⟩))
    (m1 : tab3[j * 3]? = some (.bool yb)) (m2 : tab3[j * 3 + 1]? = some (.int .i64 yn)) (m3 : tab3[j * 3 + 2]? = some (.string ⟨#[]⟩))
    (n1 : NtK xb xn nxb nxn) (n2 : NtK nxb nxn xb xn) (n3 : NtK ab an nab nan) (n4 : NtK yb yn nyb nyn) (a1 : AnK xb xn yb yn ab an) (a2 : AnK yb yn xb xn ab an) (a3 : AnK xb xn xb xn xb xn) (a4 : AnK xb xn false 1 xb xn) (a5 : AnK xb xn false 0 false 0) (o1 : OrK nxb nxn nyb nyn nab nan) (o2 : OrK xb xn xb xn xb xn) (o3 : OrK xb xn false 0 xb xn) (w : World) (hE : VEnv w) : Calls Tryd.prog 6 #[.int .u8 (a.toNat : Int), .int .u8 (b.toNat : Int)] w (BoolS w true) := by
  have HE := Lib.hid hE
  have N1 := Lib.hid n1
  have N2 := Lib.hid n2
  have N3 := Lib.hid n3
  have N4 := Lib.hid n4
  have A1 := Lib.hid a1
  have A2 := Lib.hid a2
  have A3 := Lib.hid a3
  have A4 := Lib.hid a4
  have A5 := Lib.hid a5
  have O1 := Lib.hid o1
  have O2 := Lib.hid o2
  have O3 := Lib.hid o3
  have L1 := Lib.hid l1
  have L2 := Lib.hid l2
  have L3 := Lib.hid l3
  have M1 := Lib.hid m1
  have M2 := Lib.hid m2
  have M3 := Lib.hid m3
  clear hE n1 n2 n3 n4 a1 a2 a3 a4 a5 o1 o2 o3 l1 l2 l3 m1 m2 m3
  go_enter Tryd.func6, Tryd.ntmps6
  go_wp2_with fail
  refine (examples10 _ HE.out).mono ?_
  rintro e w1 ⟨rfl, c1⟩
  have C1 := Lib.hid c1
  clear c1
  have hi3 : (i : Int) < 3 := by omega
  have hj3 : (j : Int) < 3 := by omega
  have fi0 : (w1.alloc (.cells #[.bool false, .int .i64 0, .string ⟨#[]⟩, .bool true, .int .i64 0, .string ⟨#[]⟩, .bool false, .int .i64 1, .string ⟨#[]⟩] 25)).cell? ⟨w1.heap.size, i * 3, none⟩ = some (.bool xb) := (World.cell?_alloc_at _ _ _ _ rfl).trans L1.out
  have fi1 : (w1.alloc (.cells #[.bool false, .int .i64 0, .string ⟨#[]⟩, .bool true, .int .i64 0, .string ⟨#[]⟩, .bool false, .int .i64 1, .string ⟨#[]⟩] 25)).cell? ⟨w1.heap.size, i * 3 + 1, none⟩ = some (.int .i64 xn) := (World.cell?_alloc_at _ _ _ _ rfl).trans L2.out
  have fi2 : (w1.alloc (.cells #[.bool false, .int .i64 0, .string ⟨#[]⟩, .bool true, .int .i64 0, .string ⟨#[]⟩, .bool false, .int .i64 1, .string ⟨#[]⟩] 25)).cell? ⟨w1.heap.size, i * 3 + 2, none⟩ = some (.string ⟨#[]⟩) := (World.cell?_alloc_at _ _ _ _ rfl).trans L3.out
  have fj0 : ((w1.alloc (.cells #[.bool false, .int .i64 0, .string ⟨#[]⟩, .bool true, .int .i64 0, .string ⟨#[]⟩, .bool false, .int .i64 1, .string ⟨#[]⟩] 25)).alloc (.cells #[.bool xb, .int .i64 xn, .string ⟨#[]⟩] 25)).cell? ⟨w1.heap.size, j * 3, none⟩ = some (.bool yb) := past1 _ ((World.cell?_alloc_at _ _ _ _ rfl).trans M1.out)
  have fj1 : ((w1.alloc (.cells #[.bool false, .int .i64 0, .string ⟨#[]⟩, .bool true, .int .i64 0, .string ⟨#[]⟩, .bool false, .int .i64 1, .string ⟨#[]⟩] 25)).alloc (.cells #[.bool xb, .int .i64 xn, .string ⟨#[]⟩] 25)).cell? ⟨w1.heap.size, j * 3 + 1, none⟩ = some (.int .i64 yn) := past1 _ ((World.cell?_alloc_at _ _ _ _ rfl).trans M2.out)
  have fj2 : ((w1.alloc (.cells #[.bool false, .int .i64 0, .string ⟨#[]⟩, .bool true, .int .i64 0, .string ⟨#[]⟩, .bool false, .int .i64 1, .string ⟨#[]⟩] 25)).alloc (.cells #[.bool xb, .int .i64 xn, .string ⟨#[]⟩] 25)).cell? ⟨w1.heap.size, j * 3 + 2, none⟩ = some (.string ⟨#[]⟩) := past1 _ ((World.cell?_alloc_at _ _ _ _ rfl).trans M3.out)
  go_wp2_with fail
  have HZ := Lib.hid (show HeldL w w1.heap.size xb xn yb yn ((((w1.alloc (.cells #[.bool false, .int .i64 0, .string ⟨#[]⟩, .bool true, .int .i64 0, .string ⟨#[]⟩, .bool false, .int .i64 1, .string ⟨#[]⟩] 25))).alloc (.cells #[.bool xb, .int .i64 xn, .string ⟨#[]⟩] 25)).alloc (.cells #[.bool yb, .int .i64 yn, .string ⟨#[]⟩] 25)).drew from ⟨three0 _ _ _ _ _ _ _ _, three0 _ _ _ _ _ _ _ _, three0 _ _ _ _ _ _ _ _, three0 _ _ _ _ _ _ _ _, three0 _ _ _ _ _ _ _ _, three0 _ _ _ _ _ _ _ _, three1 _ _ _ _ _ _ _ _, three1 _ _ _ _ _ _ _ _, three1 _ _ _ _ _ _ _ _, three2 _ _ _ _ _ _ _ _, three2 _ _ _ _ _ _ _ _, three2 _ _ _ _ _ _ _ _, (ba (ba (ba C1.out _) _) _).drew⟩)
  clear fi0 fi1 fi2 fj0 fj1 fj2
  simp only [List.append_eq, List.cons_append, List.nil_append]
  go_region_held3 (fun W => HeldL w w1.heap.size xb xn yb yn W) (first | exact k2 (by assumption) | exact HZ.out)
    (first
      | (go_at_call 22; refine (not_r _ _ _ _ (by first | exact N1.out | exact N2.out | exact N3.out | exact N4.out) _).mono ?_; rintro e W2 ⟨rfl, c2⟩; have k2 := fun h => heldL_later (w := w) (N := w1.heap.size) (xb := xb) (xn := xn) (yb := yb) (yn := yn) c2 h)
      | (go_at_call 23; refine (and_r _ _ _ _ _ _ (by first | exact A1.out | exact A2.out | exact A3.out | exact A4.out | exact A5.out) _).mono ?_; rintro e W2 ⟨rfl, c2⟩; have k2 := fun h => heldL_later (w := w) (N := w1.heap.size) (xb := xb) (xn := xn) (yb := yb) (yn := yn) c2 h)
      | (go_at_call 24; refine (or_r _ _ _ _ _ _ (by first | exact O1.out | exact O2.out | exact O3.out) _).mono ?_; rintro e W2 ⟨rfl, c2⟩; have k2 := fun h => heldL_later (w := w) (N := w1.heap.size) (xb := xb) (xn := xn) (yb := yb) (yn := yn) c2 h))
  all_goals
    go_wp2_with fail
    go_ret
    exact ⟨by simp, (‹HeldL w w1.heap.size xb xn yb yn _›).2.2.2.2.2.2.2.2.2.2.2.2⟩
theorem third (a : UInt8) : ∃ i : Nat, i < 3 ∧ (a.toNat : Int) % 3 = (i : Int) := ⟨a.toNat % 3, by omega, by omega⟩
theorem logic_walk (a b : UInt8) (w : World) (hE : VEnv w) : Calls Tryd.prog 6 #[.int .u8 (a.toNat : Int), .int .u8 (b.toNat : Int)] w (BoolS w true) := by
  obtain ⟨i, hi, ha⟩ := third a
  obtain ⟨j, hj, hb⟩ := third b
  rcases (show i = 0 ∨ i = 1 ∨ i = 2 by omega) with rfl | rfl | rfl <;> rcases (show j = 0 ∨ j = 1 ∨ j = 2 by omega) with rfl | rfl | rfl
  · exact logic_core a b 0 0 ha hb hi hj false false false false false false 0 0 1 1 0 1 rfl rfl rfl rfl rfl rfl ⟨by rfl⟩ ⟨by rfl⟩ ⟨by rfl⟩ ⟨by rfl⟩ ⟨by rfl⟩ ⟨by rfl⟩ ⟨by rfl⟩ ⟨by rfl⟩ ⟨by rfl⟩ ⟨by rfl⟩ ⟨by rfl⟩ ⟨by rfl⟩ w hE
  · exact logic_core a b 0 1 ha hb hi hj false true false true false false 0 0 1 0 0 1 rfl rfl rfl rfl rfl rfl ⟨by rfl⟩ ⟨by rfl⟩ ⟨by rfl⟩ ⟨by rfl⟩ ⟨by rfl⟩ ⟨by rfl⟩ ⟨by rfl⟩ ⟨by rfl⟩ ⟨by rfl⟩ ⟨by rfl⟩ ⟨by rfl⟩ ⟨by rfl⟩ w hE
  · exact logic_core a b 0 2 ha hb hi hj false false false false false false 0 1 1 0 0 1 rfl rfl rfl rfl rfl rfl ⟨by rfl⟩ ⟨by rfl⟩ ⟨by rfl⟩ ⟨by rfl⟩ ⟨by rfl⟩ ⟨by rfl⟩ ⟨by rfl⟩ ⟨by rfl⟩ ⟨by rfl⟩ ⟨by rfl⟩ ⟨by rfl⟩ ⟨by rfl⟩ w hE
  · exact logic_core a b 1 0 ha hb hi hj true false true false false false 0 0 0 1 0 1 rfl rfl rfl rfl rfl rfl ⟨by rfl⟩ ⟨by rfl⟩ ⟨by rfl⟩ ⟨by rfl⟩ ⟨by rfl⟩ ⟨by rfl⟩ ⟨by rfl⟩ ⟨by rfl⟩ ⟨by rfl⟩ ⟨by rfl⟩ ⟨by rfl⟩ ⟨by rfl⟩ w hE
  · exact logic_core a b 1 1 ha hb hi hj true true true true true true 0 0 0 0 0 0 rfl rfl rfl rfl rfl rfl ⟨by rfl⟩ ⟨by rfl⟩ ⟨by rfl⟩ ⟨by rfl⟩ ⟨by rfl⟩ ⟨by rfl⟩ ⟨by rfl⟩ ⟨by rfl⟩ ⟨by rfl⟩ ⟨by rfl⟩ ⟨by rfl⟩ ⟨by rfl⟩ w hE
  · exact logic_core a b 1 2 ha hb hi hj true false true false true true 0 1 0 0 0 0 rfl rfl rfl rfl rfl rfl ⟨by rfl⟩ ⟨by rfl⟩ ⟨by rfl⟩ ⟨by rfl⟩ ⟨by rfl⟩ ⟨by rfl⟩ ⟨by rfl⟩ ⟨by rfl⟩ ⟨by rfl⟩ ⟨by rfl⟩ ⟨by rfl⟩ ⟨by rfl⟩ w hE
  · exact logic_core a b 2 0 ha hb hi hj false false false false false false 1 0 0 1 0 1 rfl rfl rfl rfl rfl rfl ⟨by rfl⟩ ⟨by rfl⟩ ⟨by rfl⟩ ⟨by rfl⟩ ⟨by rfl⟩ ⟨by rfl⟩ ⟨by rfl⟩ ⟨by rfl⟩ ⟨by rfl⟩ ⟨by rfl⟩ ⟨by rfl⟩ ⟨by rfl⟩ w hE
  · exact logic_core a b 2 1 ha hb hi hj false true false true true true 1 0 0 0 0 0 rfl rfl rfl rfl rfl rfl ⟨by rfl⟩ ⟨by rfl⟩ ⟨by rfl⟩ ⟨by rfl⟩ ⟨by rfl⟩ ⟨by rfl⟩ ⟨by rfl⟩ ⟨by rfl⟩ ⟨by rfl⟩ ⟨by rfl⟩ ⟨by rfl⟩ ⟨by rfl⟩ w hE
  · exact logic_core a b 2 2 ha hb hi hj false false false false false false 1 1 0 0 1 0 rfl rfl rfl rfl rfl rfl ⟨by rfl⟩ ⟨by rfl⟩ ⟨by rfl⟩ ⟨by rfl⟩ ⟨by rfl⟩ ⟨by rfl⟩ ⟨by rfl⟩ ⟨by rfl⟩ ⟨by rfl⟩ ⟨by rfl⟩ ⟨by rfl⟩ ⟨by rfl⟩ w hE
end Go.Proofs.YtafnjkeljjeamaaDoor.Val
