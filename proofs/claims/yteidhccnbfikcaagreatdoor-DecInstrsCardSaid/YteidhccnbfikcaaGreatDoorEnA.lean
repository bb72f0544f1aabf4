/-
  EncPlain, EncBld, EncA, EncList in one.
-/
import Derived.Test.YteidhccnbfikcaaGreatDoorModRight
import Derived.Test.YteidhccnbfikcaaGreatDoorLbA
import Derived.Test.YteidhccnbfikcaaGreatDoorProg
import Derived.WalkKit
import Derived.WalkSpells
import Derived.WalkLawsBesides
import Derived.Lib.Hide
import Derived.Lib.OthersKept
import Derived.Lib.FrozenHead2
import Derived.Lib.Strings
import Derived.Lib.Builder
import Derived.Lib.AppendStr
import Derived.Lib.UnsafeStr
import Derived.Laws.Externs
import Derived.Test.YteidhccnbfikcaaGreatDoorModMem
import Derived.Test.YteidhccnbfikcaaGreatDoorRg
import Derived.Deep.LoopGhost
/- EncPlain: The bytes of an instruction and of a module, as lists of bytes. Plain: no program in sight. -/
namespace Go.Proofs.YteidhccnbfikcaaGreatDoor.Enc
open Go.RowKit Go.Proofs.YteidhccnbfikcaaGreatDoor.Op Go.Proofs.YteidhccnbfikcaaGreatDoor.Mod Go.Proofs.YteidhccnbfikcaaGreatDoor.Leb
set_option linter.unusedVariables false
def byteOf (n : Int) : UInt8 := UInt8.ofNat (n % 256).toNat
/-- of a number without a sign, as it is read of one with a sign -/
def numL (n : Int) : List UInt8 := putU 10 (n % 18446744073709551616).toNat
def sgnL (n : Int) : List UInt8 := putS 10 n
def textL (l : List UInt8) : List UInt8 := numL l.length ++ l
def strL (s : ByteArray) : List UInt8 := textL s.data.toList
def listL {α : Type} (one : α → List UInt8) (l : List α) : List UInt8 := numL l.length ++ l.flatMap one
def bodyL (shape a b : Int) (labels : List Int) : List UInt8 :=
  if shape = 1 then [byteOf a] else if shape = 2 ∨ shape = 4 then numL a else if shape = 3 then listL numL labels ++ numL a
  else if shape = 5 then numL a ++ numL b else if shape = 6 then [0] else if shape = 7 then sgnL a else []
def shapeOf (op : Int) : Int := ((opInfo op).getD zeroI).shape
def insL (x : InsL) : List UInt8 := byteOf x.op :: bodyL (shapeOf x.op) x.a x.b x.labels
def constL (kind n : Int) : List UInt8 := [byteOf (if kind = 126 then 66 else 65)] ++ sgnL n ++ [11]
/-- a function's locals: one more at the end -/
def runStep (l : List (Nat × UInt8)) (b : UInt8) : List (Nat × UInt8) :=
  match l.getLast? with
  | some (n, k) => if k = b then l.dropLast ++ [(n + 1, k)] else l ++ [(1, b)]
  | none => [(1, b)]
def runsOf (l : List UInt8) : List (Nat × UInt8) := l.foldl runStep []
def runL (r : Nat × UInt8) : List UInt8 := numL r.1 ++ [r.2]
def localsL (l : List UInt8) : List UInt8 := listL runL (runsOf l)
def codeL (f : FuncP) : List UInt8 := textL (localsL f.locals.data.toList ++ f.code.flatMap insL)
def sectL (id : UInt8) (many : Nat) (l : List UInt8) : List UInt8 := if many = 0 then [] else id :: textL l
def ftL (x : FT) : List UInt8 := 96 :: (strL x.params ++ strL x.results)
def memL (x : MemP) : List UInt8 := if x.most = -1 then 0 :: numL x.least else 1 :: (numL x.least ++ numL x.most)
def globL (x : GlobP) : List UInt8 := [byteOf x.ty, if x.mut_ then 1 else 0] ++ constL x.ty x.init
def expL (x : ExpP) : List UInt8 := strL x.name ++ [byteOf x.kind] ++ numL x.index
def dataL (x : DataP) : List UInt8 := 0 :: (constL 127 x.offset ++ strL x.bytes)
def magicL : List UInt8 := [0, 97, 115, 109, 1, 0, 0, 0]
def sects (m : ModP) : List (List UInt8) :=
  [magicL, sectL 1 m.types.length (listL ftL m.types), sectL 3 m.funcs.length (listL (fun f => numL f.ty) m.funcs), sectL 5 m.memory.length (listL memL m.memory), sectL 6 m.globals.length (listL globL m.globals),
   sectL 7 m.exports.length (listL expL m.exports), sectL 8 (if m.start = -1 then 0 else 1) (numL m.start), sectL 10 m.funcs.length (listL codeL m.funcs), sectL 11 m.data.length (listL dataL m.data)]
def modL (m : ModP) : List UInt8 := (sects m).flatten
/-- the bytes, the error -/
def encM (m : ModP) : List UInt8 × Int := if rightM m = true then (if (modL m).length ≤ 1048576 then (modL m, 0) else ([], 5)) else ([], 1)
def encI (x : InsL) : List UInt8 × Bool := if rightIns x = true then (insL x, true) else ([], false)
end Go.Proofs.YteidhccnbfikcaaGreatDoor.Enc

/- EncBld: What strings.Builder's methods do to a builder that lies at the beginning of a block (of its own type, or of a struct's that begins with it). No condition beyond what each theorem names. -/
namespace Go.Proofs.YteidhccnbfikcaaGreatDoor.Enc
open Go.RowKit
set_option linter.unusedVariables false
/-- a block of type T begins with a builder -/
structure BT (T : TypeId) : Prop where
  lies : liesAt Tryz.prog Tryz.prog.depth T (2 / Tryz.prog.cellsOf T) 0 88 1 = true
  ne : T ≠ 5
abbrev Bld (T : TypeId) (B b : Nat) (l : List UInt8) (w : World) : Prop := Lib.IsBuilderF T 5 B b (Lib.byteCells l) w
/-- but for the builder's block and rows of bytes, all that was lies as it did -/
abbrev Kp (b : Nat) (w w' : World) : Prop := Lib.OthersKept 5 (some b) w w'
theorem info_b : (Tryz.prog.info? 88).map (·.size) = some 2 := by kernel_rfl
theorem info_8 : (Tryz.prog.info? 5).map (fun i => (i.zero, i.size, i.bytes)) = some (some (.int .u8 0), 1, 1) := by kernel_rfl
theorem cells_8 : Tryz.prog.cellsOf 5 = 1 := by kernel_rfl
set_option maxRecDepth 100000 in
theorem check_used (b : Nat) (w : World) (h0 : w.cell? ⟨b, 0, none⟩ = some (.pointer (some ⟨b, 0, none⟩))) :
    Calls Tryz.prog 116 #[.pointer (some ⟨b, 0, none⟩)] w fun e w' => e = .returned (.tuple #[]) ∧ w' = w := by
  obtain ⟨j, hj, _⟩ := Option.map_eq_some_iff.1 info_b
  go_enter Tryz.func116, Tryz.ntmps116
  go_wp2
  rw [Lib.run_neq_ptr_same w _ Tryz.underlying86 hj]
  go_wp2
  go_end0
  exact ⟨rfl, rfl⟩
set_option maxRecDepth 100000 in
theorem check_fresh {T : TypeId} (hT : BT T) (b : Nat) (w : World) (h0 : w.cell? ⟨b, 0, none⟩ = some (.pointer none)) (hsh : w.shape? b = some (T, 2)) (hfz : w.frozen? ⟨b, 0, none⟩ = false) :
    Calls Tryz.prog 116 #[.pointer (some ⟨b, 0, none⟩)] w fun e w' => e = .returned (.tuple #[]) ∧ w' = w.setCell ⟨b, 0, none⟩ (.pointer (some ⟨b, 0, none⟩)) := by
  obtain ⟨j, hj, hjs⟩ := Option.map_eq_some_iff.1 info_b
  have hl := hT.lies
  clear hT
  go_enter Tryz.func116, Tryz.ntmps116
  go_wp2
  rw [Lib.run_to_unsafe w ⟨b, 0, none⟩ Tryz.underlying86 Tryz.underlying217 hj (by rw [hjs]; decide) hsh (Nat.zero_lt_succ 1)]
  simp only [Result.andThen]
  rw [Oper.upon_value]
  go_wp2
  rw [run_callFunc_extern Tryz.func182 (by kernel_rfl) (by kernel_rfl) (by kernel_rfl) (e := Extern.AbiNoEscape.same) (by kernel_rfl)]
  rw [Lib.run_noEscape]
  simp only [Result.andThen]
  rw [Oper.upon_value]
  go_wp2
  rw [Lib.run_from_unsafe w ⟨b, 0, none⟩ Tryz.underlying217 Tryz.underlying86 hj hsh hl]
  simp only [Result.andThen]
  rw [Oper.upon_value]
  go_wp2
  go_end0
  exact ⟨rfl, rfl⟩
theorem check_any {T : TypeId} (hT : BT T) (B b : Nat) (bs : List Value) (w : World) (h : Lib.IsBuilderF T 5 B b bs w) :
    Calls Tryz.prog 116 #[.pointer (some ⟨b, 0, none⟩)] w fun e w' => e = .returned (.tuple #[]) ∧ Lib.BuilderAtF T 5 B b (.pointer (some ⟨b, 0, none⟩)) bs w' ∧ Below B w w' ∧ Kp b w w' := by
  rcases h with h | h
  · refine (check_fresh hT b w h.cell0 h.shape h.frozen0).mono ?_
    rintro e w' ⟨rfl, rfl⟩
    exact ⟨rfl, h.used _, (Below.refl B w).setCell (p := ⟨b, 0, none⟩) h.1 _, (Lib.OthersKept.refl _ _ w).setCell ⟨b, 0, none⟩ rfl _⟩
  · refine (check_used b w h.cell0).mono ?_
    rintro e w' ⟨rfl, rfl⟩
    exact ⟨rfl, h, Below.refl B _, Lib.OthersKept.refl _ _ _⟩
theorem byteCells_app (l r : List UInt8) : Lib.byteCells (l ++ r) = Lib.byteCells l ++ Lib.byteCells r := by simp [Lib.byteCells]
theorem strCells_eq (s : ByteArray) : Lib.strCells s = Lib.byteCells s.data.toList := by first | rfl | simp [Lib.strCells, Lib.byteCells]
set_option maxHeartbeats 2000000 in
set_option maxRecDepth 100000 in
/-- WriteString -/
theorem write_any {T : TypeId} (hT : BT T) (B b : Nat) (l : List UInt8) (s : ByteArray) (w : World) (h : Bld T B b l w) (hlen : l.length + s.size ≤ 140737488355328) (hBw : B ≤ w.heap.size) :
    Calls Tryz.prog 28 #[.pointer (some ⟨b, 0, none⟩), .string s] w fun e w' => e = .returned (.tuple #[.int .i64 s.size, .nilIface]) ∧ Bld T B b (l ++ s.data.toList) w' ∧ Below B w w' ∧ Kp b w w' := by
  obtain ⟨i0, hi, hz0, hz1, hz2⟩ := info_parts info_8
  have hne0 := hT.ne
  have hcheck := check_any hT B b _ w h
  have HBL := Lib.hid (Lib.byteCells_length l)
  clear h hT
  go_enter Tryz.func28, Tryz.ntmps28
  go_wp2_with (go_at_call 116; refine hcheck.mono ?_)
  rintro e w1 ⟨rfl, h1, hb1, hk1⟩
  obtain ⟨hB, v, hbk, hown, hne⟩ := h1
  have c0 : w1.cell? ⟨b, 0, none⟩ = some (.pointer (some ⟨b, 0, none⟩)) := by rw [Lib.cell_of_heap hbk]; rfl
  have c1 : w1.cell? ⟨b, 1, none⟩ = some v := by rw [Lib.cell_of_heap hbk]; rfl
  go_wp2_with (at_builtin; refine Lib.wpList_append_own_stringF _ rfl _ _ 45 9 rfl B 5 i0 Tryz.underlying45 Tryz.underlying9 hi hz0 hz1 hz2 _ _ _ rfl hown s rfl ?c3 ?c4 ?c5 ?_)
  case c3 => rw [HBL.out]; unfold maxLen; omega
  case c4 => rw [HBL.out]; omega
  case c5 => have := hb1.size; omega
  intro v' w2 hown' hgrow _
  have hlt : b < w1.heap.size := by
    rcases Nat.lt_or_ge b w1.heap.size with h' | h'
    · exact h'
    · simp [Array.getElem?_eq_none h'] at hbk
  have hb2 : w2.heap[b]? = some (.cells #[.pointer (some ⟨b, 0, none⟩), v] T (0, 0)) := by
    rw [hgrow.block b hlt (fun e => hne e.symm)]
    exact hbk
  have d0 : w2.cell? ⟨b, 0, none⟩ = some (.pointer (some ⟨b, 0, none⟩)) := by rw [Lib.cell_of_heap hb2]; rfl
  have d1 : w2.cell? ⟨b, 1, none⟩ = some v := by rw [Lib.cell_of_heap hb2]; rfl
  have f1 : w2.frozen? ⟨b, 1, none⟩ = false := Lib.frozen_of_heap hb2 1
  obtain ⟨ao, n', cap, rfl⟩ : ∃ ao n' cap, v' = .slice ao n' cap := by
    rcases hown'.2 with ⟨hv, _⟩ | ⟨g, cap, cur, fz, hv, _⟩
    · exact ⟨_, _, _, hv⟩
    · exact ⟨_, _, _, hv⟩
  go_wp2
  go_ret2
  refine ⟨rfl, .inr ?_, ?_, (hk1.grown hgrow (Lib.ownsRowF_kind hown)).setCell ⟨b, 1, none⟩ rfl _⟩
  · have hp := Lib.BuilderAtF.put (T := T) (e := 5) hB hb2 (bs' := Lib.byteCells l ++ Lib.strCells s) (by rw [List.length_append, Lib.strCells_length]; exact hown') hne0
    rw [strCells_eq, ← byteCells_app] at hp
    exact hp
  · exact (hb1.grown hgrow (by have := hb1.size; omega) (fun k hk => (hown.lt k hk).1)).setCell (p := ⟨b, 1, none⟩) hB _
set_option maxHeartbeats 2000000 in
set_option maxRecDepth 100000 in
/-- WriteByte -/
theorem writeByte_any {T : TypeId} (hT : BT T) (B b : Nat) (l : List UInt8) (c : UInt8) (w : World) (h : Bld T B b l w) (hlen : l.length + 1 ≤ 140737488355328) (hBw : B ≤ w.heap.size) :
    Calls Tryz.prog 122 #[.pointer (some ⟨b, 0, none⟩), .int .u8 c.toNat] w fun e w' => e = .returned .nilIface ∧ Bld T B b (l ++ [c]) w' ∧ Below B w w' ∧ Kp b w w' := by
  obtain ⟨i0, hi, hz0, hz1, hz2⟩ := info_parts info_8
  have hne0 := hT.ne
  have hcheck := check_any hT B b _ w h
  have HBL := Lib.hid (Lib.byteCells_length l)
  obtain ⟨cn, hcn⟩ : ∃ cn : Int, (c.toNat : Int) = cn := ⟨_, rfl⟩
  rw [hcn]
  clear h hT
  go_enter Tryz.func122, Tryz.ntmps122
  go_wp2_with (go_at_call 116; refine hcheck.mono ?_)
  rintro e w1 ⟨rfl, h1, hb1, hk1⟩
  obtain ⟨hB, v, hbk, hown, hne⟩ := h1
  have c0 : w1.cell? ⟨b, 0, none⟩ = some (.pointer (some ⟨b, 0, none⟩)) := by rw [Lib.cell_of_heap hbk]; rfl
  have c1 : w1.cell? ⟨b, 1, none⟩ = some v := by rw [Lib.cell_of_heap hbk]; rfl
  go_wp2_with (at_builtin; refine wpList_append_ownF _ rfl _ _ 45 rfl B 5 i0 (.int .u8 0) 1 1 Tryz.underlying45 hi hz0 hz1 hz2 rfl (by decide) _ _ _ rfl (hown.alloc _) ⟨w1.heap.size, 0, none⟩ 1 1 [.int .u8 cn] rfl rfl ?c1 ?c2 ?c3 ?c4 ?c5 ?_)
  case c1 =>
    intro j u hj
    match j, hj with
    | 0, hj => simp at hj; subst hj; simp [Addr.add]
  case c2 => intro u hu; simp at hu; subst hu; rfl
  case c3 => rw [HBL.out]; unfold maxLen; omega
  case c4 => rw [HBL.out]; omega
  case c5 => have := hb1.size; simp; omega
  intro v' w2 hown' hgrow _
  have hlt : b < w1.heap.size := by
    rcases Nat.lt_or_ge b w1.heap.size with h' | h'
    · exact h'
    · simp [Array.getElem?_eq_none h'] at hbk
  have hb2 : w2.heap[b]? = some (.cells #[.pointer (some ⟨b, 0, none⟩), v] T (0, 0)) := by
    rw [hgrow.block b (by simp; omega) (fun e => hne e.symm), Lib.alloc_old w1 _ b hlt]
    exact hbk
  have d0 : w2.cell? ⟨b, 0, none⟩ = some (.pointer (some ⟨b, 0, none⟩)) := by rw [Lib.cell_of_heap hb2]; rfl
  have d1 : w2.cell? ⟨b, 1, none⟩ = some v := by rw [Lib.cell_of_heap hb2]; rfl
  have f1 : w2.frozen? ⟨b, 1, none⟩ = false := Lib.frozen_of_heap hb2 1
  obtain ⟨g, cap, rfl⟩ : ∃ g cap, v' = .slice (some ⟨g, 0, none⟩) ((Lib.byteCells l).length + 1) cap := by
    rcases hown'.2 with ⟨_, h0⟩ | ⟨g, cap, cur, fz, hv, _⟩
    · omega
    · exact ⟨g, cap, hv⟩
  go_wp2
  go_ret
  refine ⟨rfl, .inr ?_, ?_, ((hk1.alloc _).grown hgrow (Lib.ownsRowF_kind (hown.alloc _))).setCell ⟨b, 1, none⟩ rfl _⟩
  · have hp := Lib.BuilderAtF.put (T := T) (e := 5) hB hb2 (bs' := Lib.byteCells l ++ [.int .u8 cn]) (by rw [List.length_append]; exact hown') hne0
    rw [← hcn, show ([Value.int .u8 (c.toNat : Int)] : List Value) = Lib.byteCells [c] from rfl, ← byteCells_app] at hp
    exact hp
  · exact ((hb1.alloc (by have := hb1.size; omega) _).grown hgrow (by have := hb1.size; simp; omega) (fun k hk => (hown.lt k hk).1)).setCell (p := ⟨b, 1, none⟩) hB _
set_option maxRecDepth 100000 in
/-- Len -/
theorem len_any {T : TypeId} (B b : Nat) (l : List UInt8) (w : World) (h : Bld T B b l w) :
    Calls Tryz.prog 56 #[.pointer (some ⟨b, 0, none⟩)] w fun e w' => e = .returned (.int .i64 l.length) ∧ w' = w := by
  obtain ⟨p, hB, v, hbk, hown, hne⟩ : ∃ p, Lib.BuilderAtF T 5 B b p (Lib.byteCells l) w := by
    rcases h with h | h
    · exact ⟨_, h⟩
    · exact ⟨_, h⟩
  rw [Lib.byteCells_length] at hown
  obtain ⟨ao, cap, rfl⟩ : ∃ ao cap, v = .slice ao l.length cap := by
    rcases hown.2 with ⟨hv, h0⟩ | ⟨g, cap, cur, fz, hv, _⟩
    · exact ⟨none, 0, by rw [hv, h0]⟩
    · exact ⟨_, _, hv⟩
  have c1 : w.cell? ⟨b, 1, none⟩ = some (.slice ao l.length cap) := by rw [Lib.cell_of_heap hbk]; rfl
  clear hne hown hbk h
  go_enter Tryz.func56, Tryz.ntmps56
  go_wp2
  go_ret
  exact ⟨rfl, rfl⟩
theorem unsafe_none (W : World) (q : Option Addr) : (Builtin.unsafeString_ #[184, 3] 9 #[.pointer q, .int .i64 0]).run Tryz.prog W = .ok (.string .empty) W := Lib.run_unsafeString_none W _ _ _ q
set_option maxHeartbeats 2000000 in
set_option maxRecDepth 100000 in
/-- String -/
theorem string_any {T : TypeId} (B b : Nat) (l : List UInt8) (w : World) (h : Bld T B b l w) (hBw : B ≤ w.heap.size) :
    Calls Tryz.prog 32 #[.pointer (some ⟨b, 0, none⟩)] w fun e w' => e = .returned (.string ⟨l.toArray⟩) ∧ Bld T B b l w' ∧ Below B w w' ∧ Kp b w w' := by
  obtain ⟨p, hp, hA⟩ : ∃ p, (∀ W, Lib.BuilderAtF T 5 B b p (Lib.byteCells l) W → Bld T B b l W) ∧ Lib.BuilderAtF T 5 B b p (Lib.byteCells l) w := by
    rcases h with h | h
    · exact ⟨_, fun W hW => .inl hW, h⟩
    · exact ⟨_, fun W hW => .inr hW, h⟩
  have hA' := hA
  obtain ⟨hB, v, hbk, hown, hne⟩ := hA
  rw [Lib.byteCells_length] at hown
  have hlt : b < w.heap.size := hA'.lt
  rcases hown.2 with ⟨rfl, h0⟩ | ⟨g, cap, cur, fz, rfl, hbg, hg, hfz, hnc, hcm, hcs, htake⟩
  · obtain rfl : l = [] := List.length_eq_zero_iff.1 h0
    have hUS := unsafe_none
    have c1 : w.drew.cell? ⟨b, 1, none⟩ = some (.slice none 0 0) := by
      have : w.drew.heap[b]? = some (.cells #[p, .slice none 0 0] T (0, 0)) := hbk
      rw [Lib.cell_of_heap this]; rfl
    have hSD : (Builtin.unsafeSliceData_ #[45] 184 #[.slice none 0 0]).run Tryz.prog w.drew = .ok (.pointer none) w.drew := rfl
    have fin := hp _ hA'.drew
    clear hp hA' hne hown hbk h
    go_enter Tryz.func32, Tryz.ntmps32
    go_wp2
    go_region
    all_goals (go_wp2; go_ret; exact ⟨rfl, fin, Below.drew (Below.refl B w), (Lib.OthersKept.refl _ _ w).drew⟩)
  · by_cases hl0 : l.length = 0
    · obtain rfl : l = [] := List.length_eq_zero_iff.1 hl0
      have hUS := unsafe_none
      by_cases hc0 : cap = 0
      · subst hc0
        have c1 : w.drew.cell? ⟨b, 1, none⟩ = some (.slice (some ⟨g, 0, none⟩) 0 0) := by
          have : w.drew.heap[b]? = some (.cells #[p, .slice (some ⟨g, 0, none⟩) 0 0] T (0, 0)) := hbk
          rw [Lib.cell_of_heap this]; rfl
        have hSD : (Builtin.unsafeSliceData_ #[45] 184 #[.slice (some ⟨g, 0, none⟩) 0 0]).run Tryz.prog w.drew = .ok (.pointer (some ⟨w.drew.heap.size, 0, none⟩)) (w.drew.alloc (.view ⟨g, 0, none⟩ 5)) :=
          Lib.run_unsafeSliceData_zero w.drew _ _ 5 Tryz.underlying184 ⟨g, 0, none⟩ 0 (5, cur.size) (by have hg' : w.drew.heap[g]? = some (.cells cur 5 fz) := hg; simp [World.shape?, hg'])
        have c2 : (w.drew.alloc (.view ⟨g, 0, none⟩ 5)).cell? ⟨b, 1, none⟩ = some (.slice (some ⟨g, 0, none⟩) 0 0) := by
          have : (w.drew.alloc (.view ⟨g, 0, none⟩ 5)).heap[b]? = _ := (Lib.alloc_old w.drew _ b hlt).trans hbk
          rw [Lib.cell_of_heap this]; rfl
        have c3 : (w.alloc (.view ⟨g, 0, none⟩ 5)).drew.cell? ⟨b, 1, none⟩ = some (.slice (some ⟨g, 0, none⟩) 0 0) := c2
        have c0 : w.cell? ⟨b, 1, none⟩ = some (.slice (some ⟨g, 0, none⟩) 0 0) := c1
        have fin := hp _ (hA'.drew.alloc (.view ⟨g, 0, none⟩ 5))
        clear hp hA' hne hown hbk h
        go_enter Tryz.func32, Tryz.ntmps32
        go_wp2
        go_region
        all_goals (go_wp2; go_ret; exact ⟨rfl, fin, (Below.drew (Below.refl B w)).alloc hBw _, ((Lib.OthersKept.refl _ _ w).drew).alloc _⟩)
      · have c1 : w.drew.cell? ⟨b, 1, none⟩ = some (.slice (some ⟨g, 0, none⟩) 0 cap) := by
          have : w.drew.heap[b]? = some (.cells #[p, .slice (some ⟨g, 0, none⟩) 0 cap] T (0, 0)) := hbk
          rw [Lib.cell_of_heap this]; rfl
        have hSD : (Builtin.unsafeSliceData_ #[45] 184 #[.slice (some ⟨g, 0, none⟩) 0 cap]).run Tryz.prog w.drew = .ok (.pointer (some ⟨g, 0, none⟩)) w.drew :=
          Lib.run_unsafeSliceData_row _ _ _ _ _ _ hc0
        have fin := hp _ hA'.drew
        clear hp hA' hne hown hbk h hc0
        go_enter Tryz.func32, Tryz.ntmps32
        go_wp2
        go_region
        all_goals (go_wp2; go_ret; exact ⟨rfl, fin, Below.drew (Below.refl B w), (Lib.OthersKept.refl _ _ w).drew⟩)
    · have h0 : l ≠ [] := fun e => hl0 (by rw [e]; rfl)
      have c1 : w.drew.cell? ⟨b, 1, none⟩ = some (.slice (some ⟨g, 0, none⟩) l.length cap) := by
        have : w.drew.heap[b]? = some (.cells #[p, .slice (some ⟨g, 0, none⟩) l.length cap] T (0, 0)) := hbk
        rw [Lib.cell_of_heap this]; rfl
      have hSD : (Builtin.unsafeSliceData_ #[45] 184 #[.slice (some ⟨g, 0, none⟩) l.length cap]).run Tryz.prog w.drew = .ok (.pointer (some ⟨g, 0, none⟩)) w.drew :=
        Lib.run_unsafeSliceData_row _ _ _ _ _ _ (by omega)
      have hUS : (Builtin.unsafeString_ #[184, 3] 9 #[.pointer (some ⟨g, 0, none⟩), .int .i64 l.length]).run Tryz.prog w.drew = .ok (.string ⟨l.toArray⟩) (w.drew.freeze ⟨g, 0, none⟩ l.length) := by
        refine Lib.run_unsafeString_row w.drew 184 3 9 5 Tryz.underlying184 cells_8 g cur.size (by have hg' : w.drew.heap[g]? = some (.cells cur 5 fz) := hg; simp [World.shape?, hg']) l h0 (by omega) (by unfold maxLen at hcm; omega) ?_
        intro j x hx
        exact hown.cells (g := g) rfl j (.int .u8 x.toNat) (by simp [Lib.byteCells, hx])
      have fin : Bld T B b l (w.drew.freeze ⟨g, 0, none⟩ l.length) := by
        have hA2 : Lib.BuilderAtF T 5 B b p (Lib.byteCells l) w.drew := hA'.drew
        have hF := hA2.froze (g := g) (cap := cap) (by rw [Lib.byteCells_length]; exact c1)
        rw [Lib.byteCells_length] at hF
        exact hp _ hF
      have kp : Kp b w (w.drew.freeze ⟨g, 0, none⟩ l.length) := ((Lib.OthersKept.refl _ _ w).drew).freeze ⟨g, 0, none⟩ _ ⟨cur, fz, hg⟩
      have bel : Below B w (w.drew.freeze ⟨g, 0, none⟩ l.length) := Lib.below_freeze (Below.drew (Below.refl B w)) (p := ⟨g, 0, none⟩) hbg _
      clear hp hA' hne hown hbk h
      go_enter Tryz.func32, Tryz.ntmps32
      go_wp2
      go_region
      all_goals (go_wp2; go_ret; exact ⟨rfl, fin, bel, kp⟩)
end Go.Proofs.YteidhccnbfikcaaGreatDoor.Enc

/- EncA: What package enc's number, text and constant answer. No condition beyond what each theorem names. -/
namespace Go.Proofs.YteidhccnbfikcaaGreatDoor.Enc
open Go.RowKit Go.Proofs.YteidhccnbfikcaaGreatDoor.Op Go.Proofs.YteidhccnbfikcaaGreatDoor.Mod Go.Proofs.YteidhccnbfikcaaGreatDoor.Leb Go.Proofs.YteidhccnbfikcaaGreatDoor.Bytes
set_option linter.unusedVariables false
/-- bytes as a string -/
def bs (l : List UInt8) : ByteArray := ⟨l.toArray⟩
theorem bs_size (l : List UInt8) : (bs l).size = l.length := by simp [bs, ByteArray.size]
theorem bs_data (l : List UInt8) : (bs l).data.toList = l := by simp [bs]
theorem bs_self (s : ByteArray) : bs s.data.toList = s := by simp [bs]
theorem bs_app (l r : List UInt8) : bs l ++ bs r = bs (l ++ r) := by
  unfold bs
  apply ByteArray.ext
  rw [ByteArray.data_append]
  simp
theorem bs_inj {l r : List UInt8} (h : bs l = bs r) : l = r := by rw [← bs_data l, h, bs_data]
theorem wrap_u64 (n : Int) : ((n % 18446744073709551616).toNat : Int) = n % 18446744073709551616 := by omega
theorem num_lt (n : Int) : (n % 18446744073709551616).toNat < 2 ^ 64 := by
  rw [show (2 : Nat) ^ 64 = 18446744073709551616 by decide]; omega
theorem num_len (n : Int) : (numL n).length ≤ 10 := putU_len10 _ (num_lt n)
theorem num_pos (n : Int) : 0 < (numL n).length := putU_pos _ (num_lt n)
theorem sgn_len {n : Int} (h : (Lit.int .i64 n).wf = true) : (sgnL n).length ≤ 10 := by
  have h2 : IntKind.i64.min ≤ n ∧ n ≤ IntKind.i64.max := by
    simpa [Lit.wf] using h
  rw [show IntKind.i64.min = -9223372036854775808 by decide, show IntKind.i64.max = 9223372036854775807 by decide] at h2
  exact putS_len10 n (by rw [show (2 : Int) ^ 63 = 9223372036854775808 by decide]; omega)
theorem wf64_iff {n : Int} (h : (Lit.int .i64 n).wf = true) : -(2 ^ 63) ≤ n ∧ n < 2 ^ 63 := by
  have h2 : IntKind.i64.min ≤ n ∧ n ≤ IntKind.i64.max := by
    simpa [Lit.wf] using h
  rw [show IntKind.i64.min = -9223372036854775808 by decide, show IntKind.i64.max = 9223372036854775807 by decide] at h2
  rw [show (2 : Int) ^ 63 = 9223372036854775808 by decide]
  omega
set_option maxRecDepth 100000 in
theorem number_int (n : Int) (w : World) : Calls Tryz.prog 40 #[.int .i64 n] w fun e w' => e = .returned (.string (bs (numL n))) ∧ Below w.heap.size w w' := by
  have hcall := putU_any (n % 18446744073709551616).toNat w (num_lt n)
  rw [wrap_u64] at hcall
  change Calls Tryz.prog 123 #[.int .u64 (n % 18446744073709551616)] w fun e w' => e = .returned (.string (bs (numL n))) ∧ Below w.heap.size w w' at hcall
  obtain ⟨R, hR⟩ : ∃ R, bs (numL n) = R := ⟨_, rfl⟩
  rw [hR] at hcall ⊢
  clear hR
  go_enter Tryz.func40, Tryz.ntmps40
  go_wp2_with (go_at_call 123; refine hcall.mono ?_; rintro e w' ⟨rfl, hb⟩)
  go_ret
  exact ⟨rfl, hb⟩
set_option maxRecDepth 100000 in
theorem number_i64 (n : Int) (w : World) : Calls Tryz.prog 117 #[.int .i64 n] w fun e w' => e = .returned (.string (bs (numL n))) ∧ Below w.heap.size w w' := by
  have hcall := putU_any (n % 18446744073709551616).toNat w (num_lt n)
  rw [wrap_u64] at hcall
  change Calls Tryz.prog 123 #[.int .u64 (n % 18446744073709551616)] w fun e w' => e = .returned (.string (bs (numL n))) ∧ Below w.heap.size w w' at hcall
  obtain ⟨R, hR⟩ : ∃ R, bs (numL n) = R := ⟨_, rfl⟩
  rw [hR] at hcall ⊢
  clear hR
  go_enter Tryz.func117, Tryz.ntmps117
  go_wp2_with (go_at_call 123; refine hcall.mono ?_; rintro e w' ⟨rfl, hb⟩)
  go_ret
  exact ⟨rfl, hb⟩
set_option maxRecDepth 100000 in
theorem text_any (s : ByteArray) (w : World) (hs : s.size ≤ 9223372036854775000) : Calls Tryz.prog 30 #[.string s] w fun e w' => e = .returned (.string (bs (strL s))) ∧ Below w.heap.size w w' := by
  have hcall := number_int s.size w
  have hl := num_len s.size
  have HE := Lib.hid (show bs (numL s.size) ++ s = bs (strL s) by rw [show strL s = numL s.size ++ s.data.toList from rfl, ← bs_app, bs_self])
  have hz : (bs (numL s.size)).size ≤ 10 := by rw [bs_size]; exact hl
  obtain ⟨R, hR⟩ : ∃ R, bs (numL s.size) = R := ⟨_, rfl⟩
  rw [hR] at hcall HE hz
  have hz2 : ¬ 9223372036854775807 < R.size + s.size := by omega
  clear hR hl hs hz
  go_enter Tryz.func30, Tryz.ntmps30
  go_wp2_with (go_at_call 40; refine hcall.mono ?_; rintro e w' ⟨rfl, hb⟩)
  go_ret
  exact ⟨by rw [HE.out]; rfl, hb⟩
set_option maxRecDepth 100000 in
theorem putS_i64 (n : Int) (w : World) (hn : (Lit.int .i64 n).wf = true) : Calls Tryz.prog 119 #[.int .i64 n] w fun e w' => e = .returned (.string (bs (sgnL n))) ∧ Below w.heap.size w w' := putS_any n w (wf64_iff hn)
/-- the invariant of a region may be made stronger on the way -/
theorem held_mono {P : Program} {md : Region.Mode} {ops : Array Oper} {Q : Exit → Act → World → Prop} {S S' : World → Prop} (hS : ∀ w, S' w → S w) : ∀ {fuel : Nat} {listed : Array Bool} {a : Act} {w : World}, wpAnyH P md ops Q S' fuel listed a w → wpAnyH P md ops Q S fuel listed a w
  | 0, _, _, _, h => h
  | fuel + 1, _, _, _, h => ⟨h.1, fun i hi => wpOp_mono (fun a' w' h' => ⟨hS _ h'.1, held_mono hS h'.2⟩) (h.2 i hi)⟩
end Go.Proofs.YteidhccnbfikcaaGreatDoor.Enc

/- EncList: What package enc's list answers at each of its types. No condition beyond what each theorem names. -/
namespace Go.Proofs.YteidhccnbfikcaaGreatDoor.Enc
open Go.RowKit Go.Maps Go.Proofs.YteidhccnbfikcaaGreatDoor.Op Go.Proofs.YteidhccnbfikcaaGreatDoor.Mod Go.Proofs.YteidhccnbfikcaaGreatDoor.Leb
set_option linter.unusedVariables false
theorem bt_builder : BT 88 := ⟨by kernel_rfl, by decide⟩
theorem bt_writer : BT 103 := ⟨by kernel_rfl, by decide⟩
theorem Bld.keep {T : TypeId} {B b : Nat} {l : List UInt8} {W W' : World} (h : Bld T B b l W) (hb : ∀ k, B ≤ k → k < W.heap.size → W'.heap[k]? = W.heap[k]?) : Bld T B b l W' := by
  have one : ∀ p, Lib.BuilderAtF T 5 B b p (Lib.byteCells l) W → Lib.BuilderAtF T 5 B b p (Lib.byteCells l) W' := fun p hp => by
    have hlt := hp.lt
    obtain ⟨h1, v, h2, h3, h4⟩ := hp
    refine ⟨h1, v, (hb b h1 hlt).trans h2, ⟨h3.1, ?_⟩, h4⟩
    rcases h3.2 with hn | ⟨g, cap, cur, fz, hv, hbg, hg, rest⟩
    · exact .inl hn
    · have hgl : g < W.heap.size := by
        rcases Nat.lt_or_ge g W.heap.size with h' | h'
        · exact h'
        · simp [Array.getElem?_eq_none h'] at hg
      exact .inr ⟨g, cap, cur, fz, hv, hbg, (hb g hbg hgl).trans hg, rest⟩
  rcases h with h | h
  · exact .inl (one _ h)
  · exact .inr (one _ h)
theorem Bld.lt {T : TypeId} {B b : Nat} {l : List UInt8} {W : World} (h : Bld T B b l W) : b < W.heap.size := by
  rcases h with h | h
  · exact h.lt
  · exact h.lt
theorem Bld.later {T : TypeId} {B b : Nat} {l : List UInt8} {W W' : World} (h : Bld T B b l W) (hb : Below W.heap.size W W') : Bld T B b l W' := h.keep fun k _ hk => hb.block k hk
/-- what the first k things give -/
def outs (out : Nat → List UInt8) : Nat → List UInt8
  | 0 => []
  | k + 1 => outs out k ++ out k
theorem outs_le (out : Nat → List UInt8) {k n : Nat} (h : k ≤ n) : (outs out k).length ≤ (outs out n).length := by
  induction n with
  | zero => rw [Nat.le_zero.1 h]; exact Nat.le_refl _
  | succ n ih =>
    rcases Nat.lt_or_ge n k with h1 | h1
    · rw [show k = n + 1 by omega]; exact Nat.le_refl _
    · have := ih h1
      simp only [outs, List.length_append]
      omega
theorem outs_list {α : Type} (f : α → List UInt8) (out : Nat → List UInt8) (l : List α) (h : ∀ j x, l[j]? = some x → out j = f x) : outs out l.length = l.flatMap f := by
  have key : ∀ n, n ≤ l.length → outs out n = (l.take n).flatMap f := by
    intro n
    induction n with
    | zero => intro _; rfl
    | succ n ih =>
      intro hn
      have hx := List.getElem?_eq_getElem (show n < l.length by omega)
      rw [show outs out (n + 1) = outs out n ++ out n from rfl, ih (by omega), h n _ hx, List.take_add_one, hx, List.flatMap_append]
      simp
  rw [key _ (Nat.le_refl _), List.take_length]
theorem keeps_base {G : Nat → Prop} {w W W' : World} (h : Keeps G w W) (hb : Below w.heap.size W W') : Keeps G w W' :=
  ⟨hb.os.trans h.os, hb.tape.trans h.tape, hb.output.trans h.output, Nat.le_trans h.size hb.size, fun k hk hG => (hb.block k hk).trans (h.block k hk hG)⟩
theorem keeps_then {G : Nat → Prop} {w W W' : World} (h : Keeps G w W) (k : Keeps G W W') : Keeps G w W' := h.trans k fun j hj => .inl hj
theorem one {cs : List Value} (h : cs.length = 1) : ∃ c0, cs = [c0] := by
  match cs, h with
  | [c0], _ => exact ⟨c0, rfl⟩
set_option maxRecDepth 100000 in
set_option maxHeartbeats 4000000 in
theorem enclist_ft (la : Option Addr) (c : Nat) (rows : List (List Value)) (out : Nat → List UInt8) (g : Nat) (lb : Array Value) (eg : ∀ args w, (callFunc g args).run Tryz.prog w = .ok (.enter g args) w) (I : Nat → World → Prop) (G : Nat → Prop) (w : World)
    (hG : ∀ k, G k → k < w.heap.size) (hI : I 0 w) (hIk : ∀ j W W', I j W → w.heap.size ≤ W.heap.size → Below w.heap.size W W' → I j W') (hform : ∀ (j : Nat) (r : List Value), rows[j]? = some r → ∃ (e0 : ByteArray) (e1 : ByteArray), r = [(.string e0), (.string e1)]) (hrow : ∀ j W, I j W → RowAt W 2 (.slice la rows.length c) rows)
    (hone : ∀ W j r, rows[j]? = some r → I j W → w.heap.size ≤ W.heap.size → Calls Tryz.prog g (#[.agg r.toArray] ++ lb) W fun e w' => e = .returned (.string (bs (out j))) ∧ I (j + 1) w' ∧ Keeps G W w')
    (hlen : (numL rows.length).length + (outs out rows.length).length ≤ 140737488355328) :
    Calls Tryz.prog 35 #[.slice la rows.length c, .func (.func g) #[] lb] w fun e w' => e = .returned (.string (bs (numL rows.length ++ outs out rows.length))) ∧ I rows.length w' ∧ Keeps G w w' := by
  obtain ⟨W0, hW0⟩ : ∃ W0, w.alloc (.cells #[.pointer none, .slice none 0 0] 88) = W0 := ⟨_, rfl⟩
  have B0 : Below w.heap.size w W0 := by rw [← hW0]; exact (Below.refl _ _).alloc (Nat.le_refl _) _
  have z0 : W0.heap.size = w.heap.size + 1 := by rw [← hW0]; simp
  have H0 := Lib.hid (show Bld 88 w.heap.size w.heap.size [] W0 by rw [← hW0]; exact Lib.IsBuilderF.of (Lib.fresh_isBuilder _ _ _))
  have HW := Lib.hid hW0
  have HG := Lib.hid hG
  have HK := Lib.hid hIk
  have HROW := Lib.hid hrow
  have HF := Lib.hid hform
  have HO := Lib.hid hone
  have HL := Lib.hid hlen
  have HI0 := Lib.hid (hIk 0 w W0 hI (Nat.le_refl _) B0)
  have hN : rows.length ≤ 9223372036854775807 := by obtain ⟨_, _, _, h, _⟩ := hrow 0 w hI; exact h
  clear hW0 hG hIk hrow hone hform hlen hI
  go_enter Tryz.func35, Tryz.ntmps35
  go_wp2_with fail
  rw [HW.out]
  refine (number_int rows.length W0).mono ?_
  rintro e w1 ⟨rfl, c1⟩
  have z1 := c1.size
  have H1 := Lib.hid (Bld.later H0.out c1)
  have HI1 := Lib.hid (HK.out 0 W0 w1 HI0.out (by omega) (c1.mono (by omega)))
  have B1 := B0.trans (c1.mono (by omega))
  clear c1 B0
  go_wp2_with fail
  refine (write_any bt_builder w.heap.size w.heap.size [] _ w1 H1.out (by rw [bs_size]; have := HL.out; simp; omega) (by omega)).mono ?_
  rintro e w2 ⟨rfl, b2, c2, k2⟩
  rw [bs_data, List.nil_append] at b2
  have z2 := c2.size
  have H2 := Lib.hid b2
  have HI2 := Lib.hid (HK.out 0 w1 w2 HI1.out (by omega) c2)
  have HB2 := Lib.hid (Keeps.of_below (F := G) (B1.trans c2))
  clear b2 c2 k2 B1
  go_wp2_with fail
  go_loopg [14] rows.length (fun gk s14 wr => ∃ k : Nat, k ≤ rows.length ∧ rows.length - k ≤ gk ∧ s14 = .int .i64 k ∧ w.heap.size < wr.heap.size ∧ Hid (Bld 88 w.heap.size w.heap.size (numL rows.length ++ outs out k) wr) ∧ Hid (I k wr) ∧ Hid (Keeps G w wr))
  case atStart => exact ⟨0, Nat.zero_le _, by omega, rfl, by omega, by rw [show outs out 0 = [] from rfl, List.append_nil]; exact H2, HI2, HB2⟩
  case round =>
    obtain ⟨k, hk, hg, rfl, hsz, HB, HI, HKP⟩ := hrel
    by_cases hlt : k < rows.length
    · obtain ⟨r, hrk⟩ : ∃ r, rows[k]? = some r := ⟨_, List.getElem?_eq_getElem hlt⟩
      obtain ⟨la', cp', hv, _, hq⟩ := HROW.out k wr HI.out
      obtain ⟨rfl, rfl⟩ : la = la' ∧ c = cp' := by simp only [Value.slice.injEq] at hv; exact ⟨hv.1, hv.2.2⟩
      obtain ⟨hlen, b, off, rfl, hb, hcell⟩ := hq k r hrk
      obtain ⟨e0, e1, rfl⟩ := HF.out k r hrk
      have x0 : wr.cell? ⟨b, off + k * 2, none⟩ = some (.string e0) := hcell 0 _ rfl
      have x1 : wr.cell? ⟨b, off + k * 2 + 1, none⟩ = some (.string e1) := hcell 1 _ rfl
      have hsz1 : (wr.alloc (.cells #[(.string e0), (.string e1)] 73)).heap.size = wr.heap.size + 1 := by simp
      have HBX := Lib.hid (show Below w.heap.size wr (wr.alloc (.cells #[(.string e0), (.string e1)] 73)) from (Below.refl _ _).alloc (by omega) _)
      have HI1 := Lib.hid (HK.out k wr _ HI.out (by omega) HBX.out)
      have HBB := Lib.hid (HB.out.alloc (.cells #[(.string e0), (.string e1)] 73))
      have HKQ := Lib.hid (keeps_base HKP.out HBX.out)
      have hcall := HO.out _ k _ hrk HI1.out (by omega)
      have hltz : (k : Int) < (rows.length : Int) := by omega
      obtain ⟨S, hS⟩ : ∃ S, bs (out k) = S := ⟨_, rfl⟩
      rw [hS] at hcall
      have HS := Lib.hid hS
      clear hS hcell hrk hlen hq
      go_wp2_with (go_at_fn g; refine hcall.mono ?_; rintro e w3 ⟨rfl, i3, k3⟩)
      have z3 := k3.size
      have HI3 := Lib.hid i3
      have HK3 := Lib.hid (keeps_then HKQ.out k3)
      have HB3 := Lib.hid (Bld.keep (W' := w3) HBB.out fun j hj hjl => k3.block j hjl (fun hGj => by have := HG.out j hGj; omega))
      have hz3 : w.heap.size < w3.heap.size := by rw [hsz1] at z3; omega
      clear i3 k3
      go_wp2_with fail
      refine (write_any bt_builder w.heap.size w.heap.size _ S w3 HB3.out (by rw [← HS.out, bs_size]; have h9 := outs_le out (show k + 1 ≤ rows.length by omega); have h8 := HL.out; rw [show outs out (k + 1) = outs out k ++ out k from rfl, List.length_append] at h9; rw [List.length_append]; omega) (by omega)).mono ?_
      rintro e w4 ⟨rfl, b4, c4, _⟩
      have z4 := c4.size
      have HI4 := Lib.hid (HK.out (k + 1) w3 w4 HI3.out (by omega) c4)
      have HK4 := Lib.hid (keeps_base HK3.out c4)
      have HB4 := Lib.hid (show Bld 88 w.heap.size w.heap.size (numL rows.length ++ outs out (k + 1)) w4 by rw [show outs out (k + 1) = outs out k ++ out k from rfl, ← List.append_assoc]; rw [← HS.out, bs_data] at b4; exact b4)
      clear b4 c4
      go_wp2_with fail
      go_roundg (rows.length - (k + 1))
      case measure => omega
      case rel => exact ⟨k + 1, by omega, by omega, by go_num, by omega, HB4, HI4, HK4⟩
    · have hltz : ¬ (k : Int) < (rows.length : Int) := by omega
      obtain rfl : k = rows.length := by omega
      go_wp2_with fail
      refine (string_any w.heap.size w.heap.size _ wr HB.out (by omega)).mono ?_
      rintro e w5 ⟨rfl, b5, c5, _⟩
      have HI5 := Lib.hid (HK.out rows.length wr w5 HI.out (by omega) c5)
      have HK5 := Lib.hid (keeps_base HKP.out c5)
      clear b5 c5
      go_wp2_with fail
      go_ret
      exact ⟨rfl, HI5.out, HK5.out⟩
set_option maxRecDepth 100000 in
set_option maxHeartbeats 4000000 in
theorem enclist_func (la : Option Addr) (c : Nat) (rows : List (List Value)) (out : Nat → List UInt8) (g : Nat) (lb : Array Value) (eg : ∀ args w, (callFunc g args).run Tryz.prog w = .ok (.enter g args) w) (I : Nat → World → Prop) (G : Nat → Prop) (w : World)
    (hG : ∀ k, G k → k < w.heap.size) (hI : I 0 w) (hIk : ∀ j W W', I j W → w.heap.size ≤ W.heap.size → Below w.heap.size W W' → I j W') (hform : ∀ (j : Nat) (r : List Value), rows[j]? = some r → ∃ (e0 : Int) (e1 : ByteArray) (e2 : Option Addr) (n2 k2 : Nat), r = [(.int .i64 e0), (.string e1), (.slice e2 n2 k2)]) (hrow : ∀ j W, I j W → RowAt W 3 (.slice la rows.length c) rows)
    (hone : ∀ W j r, rows[j]? = some r → I j W → w.heap.size ≤ W.heap.size → Calls Tryz.prog g (#[.agg r.toArray] ++ lb) W fun e w' => e = .returned (.string (bs (out j))) ∧ I (j + 1) w' ∧ Keeps G W w')
    (hlen : (numL rows.length).length + (outs out rows.length).length ≤ 140737488355328) :
    Calls Tryz.prog 38 #[.slice la rows.length c, .func (.func g) #[] lb] w fun e w' => e = .returned (.string (bs (numL rows.length ++ outs out rows.length))) ∧ I rows.length w' ∧ Keeps G w w' := by
  obtain ⟨W0, hW0⟩ : ∃ W0, w.alloc (.cells #[.pointer none, .slice none 0 0] 88) = W0 := ⟨_, rfl⟩
  have B0 : Below w.heap.size w W0 := by rw [← hW0]; exact (Below.refl _ _).alloc (Nat.le_refl _) _
  have z0 : W0.heap.size = w.heap.size + 1 := by rw [← hW0]; simp
  have H0 := Lib.hid (show Bld 88 w.heap.size w.heap.size [] W0 by rw [← hW0]; exact Lib.IsBuilderF.of (Lib.fresh_isBuilder _ _ _))
  have HW := Lib.hid hW0
  have HG := Lib.hid hG
  have HK := Lib.hid hIk
  have HROW := Lib.hid hrow
  have HF := Lib.hid hform
  have HO := Lib.hid hone
  have HL := Lib.hid hlen
  have HI0 := Lib.hid (hIk 0 w W0 hI (Nat.le_refl _) B0)
  have hN : rows.length ≤ 9223372036854775807 := by obtain ⟨_, _, _, h, _⟩ := hrow 0 w hI; exact h
  clear hW0 hG hIk hrow hone hform hlen hI
  go_enter Tryz.func38, Tryz.ntmps38
  go_wp2_with fail
  rw [HW.out]
  refine (number_int rows.length W0).mono ?_
  rintro e w1 ⟨rfl, c1⟩
  have z1 := c1.size
  have H1 := Lib.hid (Bld.later H0.out c1)
  have HI1 := Lib.hid (HK.out 0 W0 w1 HI0.out (by omega) (c1.mono (by omega)))
  have B1 := B0.trans (c1.mono (by omega))
  clear c1 B0
  go_wp2_with fail
  refine (write_any bt_builder w.heap.size w.heap.size [] _ w1 H1.out (by rw [bs_size]; have := HL.out; simp; omega) (by omega)).mono ?_
  rintro e w2 ⟨rfl, b2, c2, k2⟩
  rw [bs_data, List.nil_append] at b2
  have z2 := c2.size
  have H2 := Lib.hid b2
  have HI2 := Lib.hid (HK.out 0 w1 w2 HI1.out (by omega) c2)
  have HB2 := Lib.hid (Keeps.of_below (F := G) (B1.trans c2))
  clear b2 c2 k2 B1
  go_wp2_with fail
  go_loopg [14] rows.length (fun gk s14 wr => ∃ k : Nat, k ≤ rows.length ∧ rows.length - k ≤ gk ∧ s14 = .int .i64 k ∧ w.heap.size < wr.heap.size ∧ Hid (Bld 88 w.heap.size w.heap.size (numL rows.length ++ outs out k) wr) ∧ Hid (I k wr) ∧ Hid (Keeps G w wr))
  case atStart => exact ⟨0, Nat.zero_le _, by omega, rfl, by omega, by rw [show outs out 0 = [] from rfl, List.append_nil]; exact H2, HI2, HB2⟩
  case round =>
    obtain ⟨k, hk, hg, rfl, hsz, HB, HI, HKP⟩ := hrel
    by_cases hlt : k < rows.length
    · obtain ⟨r, hrk⟩ : ∃ r, rows[k]? = some r := ⟨_, List.getElem?_eq_getElem hlt⟩
      obtain ⟨la', cp', hv, _, hq⟩ := HROW.out k wr HI.out
      obtain ⟨rfl, rfl⟩ : la = la' ∧ c = cp' := by simp only [Value.slice.injEq] at hv; exact ⟨hv.1, hv.2.2⟩
      obtain ⟨hlen, b, off, rfl, hb, hcell⟩ := hq k r hrk
      obtain ⟨e0, e1, e2, n2, k2, rfl⟩ := HF.out k r hrk
      have x0 : wr.cell? ⟨b, off + k * 3, none⟩ = some (.int .i64 e0) := hcell 0 _ rfl
      have x1 : wr.cell? ⟨b, off + k * 3 + 1, none⟩ = some (.string e1) := hcell 1 _ rfl
      have x2 : wr.cell? ⟨b, off + k * 3 + 2, none⟩ = some (.slice e2 n2 k2) := hcell 2 _ rfl
      have hsz1 : (wr.alloc (.cells #[(.int .i64 e0), (.string e1), (.slice e2 n2 k2)] 75)).heap.size = wr.heap.size + 1 := by simp
      have HBX := Lib.hid (show Below w.heap.size wr (wr.alloc (.cells #[(.int .i64 e0), (.string e1), (.slice e2 n2 k2)] 75)) from (Below.refl _ _).alloc (by omega) _)
      have HI1 := Lib.hid (HK.out k wr _ HI.out (by omega) HBX.out)
      have HBB := Lib.hid (HB.out.alloc (.cells #[(.int .i64 e0), (.string e1), (.slice e2 n2 k2)] 75))
      have HKQ := Lib.hid (keeps_base HKP.out HBX.out)
      have hcall := HO.out _ k _ hrk HI1.out (by omega)
      have hltz : (k : Int) < (rows.length : Int) := by omega
      obtain ⟨S, hS⟩ : ∃ S, bs (out k) = S := ⟨_, rfl⟩
      rw [hS] at hcall
      have HS := Lib.hid hS
      clear hS hcell hrk hlen hq
      go_wp2_with (go_at_fn g; refine hcall.mono ?_; rintro e w3 ⟨rfl, i3, k3⟩)
      have z3 := k3.size
      have HI3 := Lib.hid i3
      have HK3 := Lib.hid (keeps_then HKQ.out k3)
      have HB3 := Lib.hid (Bld.keep (W' := w3) HBB.out fun j hj hjl => k3.block j hjl (fun hGj => by have := HG.out j hGj; omega))
      have hz3 : w.heap.size < w3.heap.size := by rw [hsz1] at z3; omega
      clear i3 k3
      go_wp2_with fail
      refine (write_any bt_builder w.heap.size w.heap.size _ S w3 HB3.out (by rw [← HS.out, bs_size]; have h9 := outs_le out (show k + 1 ≤ rows.length by omega); have h8 := HL.out; rw [show outs out (k + 1) = outs out k ++ out k from rfl, List.length_append] at h9; rw [List.length_append]; omega) (by omega)).mono ?_
      rintro e w4 ⟨rfl, b4, c4, _⟩
      have z4 := c4.size
      have HI4 := Lib.hid (HK.out (k + 1) w3 w4 HI3.out (by omega) c4)
      have HK4 := Lib.hid (keeps_base HK3.out c4)
      have HB4 := Lib.hid (show Bld 88 w.heap.size w.heap.size (numL rows.length ++ outs out (k + 1)) w4 by rw [show outs out (k + 1) = outs out k ++ out k from rfl, ← List.append_assoc]; rw [← HS.out, bs_data] at b4; exact b4)
      clear b4 c4
      go_wp2_with fail
      go_roundg (rows.length - (k + 1))
      case measure => omega
      case rel => exact ⟨k + 1, by omega, by omega, by go_num, by omega, HB4, HI4, HK4⟩
    · have hltz : ¬ (k : Int) < (rows.length : Int) := by omega
      obtain rfl : k = rows.length := by omega
      go_wp2_with fail
      refine (string_any w.heap.size w.heap.size _ wr HB.out (by omega)).mono ?_
      rintro e w5 ⟨rfl, b5, c5, _⟩
      have HI5 := Lib.hid (HK.out rows.length wr w5 HI.out (by omega) c5)
      have HK5 := Lib.hid (keeps_base HKP.out c5)
      clear b5 c5
      go_wp2_with fail
      go_ret
      exact ⟨rfl, HI5.out, HK5.out⟩
set_option maxRecDepth 100000 in
set_option maxHeartbeats 4000000 in
theorem enclist_mem (la : Option Addr) (c : Nat) (rows : List (List Value)) (out : Nat → List UInt8) (g : Nat) (lb : Array Value) (eg : ∀ args w, (callFunc g args).run Tryz.prog w = .ok (.enter g args) w) (I : Nat → World → Prop) (G : Nat → Prop) (w : World)
    (hG : ∀ k, G k → k < w.heap.size) (hI : I 0 w) (hIk : ∀ j W W', I j W → w.heap.size ≤ W.heap.size → Below w.heap.size W W' → I j W') (hform : ∀ (j : Nat) (r : List Value), rows[j]? = some r → ∃ (e0 : Int) (e1 : Int), r = [(.int .i64 e0), (.int .i64 e1)]) (hrow : ∀ j W, I j W → RowAt W 2 (.slice la rows.length c) rows)
    (hone : ∀ W j r, rows[j]? = some r → I j W → w.heap.size ≤ W.heap.size → Calls Tryz.prog g (#[.agg r.toArray] ++ lb) W fun e w' => e = .returned (.string (bs (out j))) ∧ I (j + 1) w' ∧ Keeps G W w')
    (hlen : (numL rows.length).length + (outs out rows.length).length ≤ 140737488355328) :
    Calls Tryz.prog 42 #[.slice la rows.length c, .func (.func g) #[] lb] w fun e w' => e = .returned (.string (bs (numL rows.length ++ outs out rows.length))) ∧ I rows.length w' ∧ Keeps G w w' := by
  obtain ⟨W0, hW0⟩ : ∃ W0, w.alloc (.cells #[.pointer none, .slice none 0 0] 88) = W0 := ⟨_, rfl⟩
  have B0 : Below w.heap.size w W0 := by rw [← hW0]; exact (Below.refl _ _).alloc (Nat.le_refl _) _
  have z0 : W0.heap.size = w.heap.size + 1 := by rw [← hW0]; simp
  have H0 := Lib.hid (show Bld 88 w.heap.size w.heap.size [] W0 by rw [← hW0]; exact Lib.IsBuilderF.of (Lib.fresh_isBuilder _ _ _))
  have HW := Lib.hid hW0
  have HG := Lib.hid hG
  have HK := Lib.hid hIk
  have HROW := Lib.hid hrow
  have HF := Lib.hid hform
  have HO := Lib.hid hone
  have HL := Lib.hid hlen
  have HI0 := Lib.hid (hIk 0 w W0 hI (Nat.le_refl _) B0)
  have hN : rows.length ≤ 9223372036854775807 := by obtain ⟨_, _, _, h, _⟩ := hrow 0 w hI; exact h
  clear hW0 hG hIk hrow hone hform hlen hI
  go_enter Tryz.func42, Tryz.ntmps42
  go_wp2_with fail
  rw [HW.out]
  refine (number_int rows.length W0).mono ?_
  rintro e w1 ⟨rfl, c1⟩
  have z1 := c1.size
  have H1 := Lib.hid (Bld.later H0.out c1)
  have HI1 := Lib.hid (HK.out 0 W0 w1 HI0.out (by omega) (c1.mono (by omega)))
  have B1 := B0.trans (c1.mono (by omega))
  clear c1 B0
  go_wp2_with fail
  refine (write_any bt_builder w.heap.size w.heap.size [] _ w1 H1.out (by rw [bs_size]; have := HL.out; simp; omega) (by omega)).mono ?_
  rintro e w2 ⟨rfl, b2, c2, k2⟩
  rw [bs_data, List.nil_append] at b2
  have z2 := c2.size
  have H2 := Lib.hid b2
  have HI2 := Lib.hid (HK.out 0 w1 w2 HI1.out (by omega) c2)
  have HB2 := Lib.hid (Keeps.of_below (F := G) (B1.trans c2))
  clear b2 c2 k2 B1
  go_wp2_with fail
  go_loopg [14] rows.length (fun gk s14 wr => ∃ k : Nat, k ≤ rows.length ∧ rows.length - k ≤ gk ∧ s14 = .int .i64 k ∧ w.heap.size < wr.heap.size ∧ Hid (Bld 88 w.heap.size w.heap.size (numL rows.length ++ outs out k) wr) ∧ Hid (I k wr) ∧ Hid (Keeps G w wr))
  case atStart => exact ⟨0, Nat.zero_le _, by omega, rfl, by omega, by rw [show outs out 0 = [] from rfl, List.append_nil]; exact H2, HI2, HB2⟩
  case round =>
    obtain ⟨k, hk, hg, rfl, hsz, HB, HI, HKP⟩ := hrel
    by_cases hlt : k < rows.length
    · obtain ⟨r, hrk⟩ : ∃ r, rows[k]? = some r := ⟨_, List.getElem?_eq_getElem hlt⟩
      obtain ⟨la', cp', hv, _, hq⟩ := HROW.out k wr HI.out
      obtain ⟨rfl, rfl⟩ : la = la' ∧ c = cp' := by simp only [Value.slice.injEq] at hv; exact ⟨hv.1, hv.2.2⟩
      obtain ⟨hlen, b, off, rfl, hb, hcell⟩ := hq k r hrk
      obtain ⟨e0, e1, rfl⟩ := HF.out k r hrk
      have x0 : wr.cell? ⟨b, off + k * 2, none⟩ = some (.int .i64 e0) := hcell 0 _ rfl
      have x1 : wr.cell? ⟨b, off + k * 2 + 1, none⟩ = some (.int .i64 e1) := hcell 1 _ rfl
      have hsz1 : (wr.alloc (.cells #[(.int .i64 e0), (.int .i64 e1)] 77)).heap.size = wr.heap.size + 1 := by simp
      have HBX := Lib.hid (show Below w.heap.size wr (wr.alloc (.cells #[(.int .i64 e0), (.int .i64 e1)] 77)) from (Below.refl _ _).alloc (by omega) _)
      have HI1 := Lib.hid (HK.out k wr _ HI.out (by omega) HBX.out)
      have HBB := Lib.hid (HB.out.alloc (.cells #[(.int .i64 e0), (.int .i64 e1)] 77))
      have HKQ := Lib.hid (keeps_base HKP.out HBX.out)
      have hcall := HO.out _ k _ hrk HI1.out (by omega)
      have hltz : (k : Int) < (rows.length : Int) := by omega
      obtain ⟨S, hS⟩ : ∃ S, bs (out k) = S := ⟨_, rfl⟩
      rw [hS] at hcall
      have HS := Lib.hid hS
      clear hS hcell hrk hlen hq
      go_wp2_with (go_at_fn g; refine hcall.mono ?_; rintro e w3 ⟨rfl, i3, k3⟩)
      have z3 := k3.size
      have HI3 := Lib.hid i3
      have HK3 := Lib.hid (keeps_then HKQ.out k3)
      have HB3 := Lib.hid (Bld.keep (W' := w3) HBB.out fun j hj hjl => k3.block j hjl (fun hGj => by have := HG.out j hGj; omega))
      have hz3 : w.heap.size < w3.heap.size := by rw [hsz1] at z3; omega
      clear i3 k3
      go_wp2_with fail
      refine (write_any bt_builder w.heap.size w.heap.size _ S w3 HB3.out (by rw [← HS.out, bs_size]; have h9 := outs_le out (show k + 1 ≤ rows.length by omega); have h8 := HL.out; rw [show outs out (k + 1) = outs out k ++ out k from rfl, List.length_append] at h9; rw [List.length_append]; omega) (by omega)).mono ?_
      rintro e w4 ⟨rfl, b4, c4, _⟩
      have z4 := c4.size
      have HI4 := Lib.hid (HK.out (k + 1) w3 w4 HI3.out (by omega) c4)
      have HK4 := Lib.hid (keeps_base HK3.out c4)
      have HB4 := Lib.hid (show Bld 88 w.heap.size w.heap.size (numL rows.length ++ outs out (k + 1)) w4 by rw [show outs out (k + 1) = outs out k ++ out k from rfl, ← List.append_assoc]; rw [← HS.out, bs_data] at b4; exact b4)
      clear b4 c4
      go_wp2_with fail
      go_roundg (rows.length - (k + 1))
      case measure => omega
      case rel => exact ⟨k + 1, by omega, by omega, by go_num, by omega, HB4, HI4, HK4⟩
    · have hltz : ¬ (k : Int) < (rows.length : Int) := by omega
      obtain rfl : k = rows.length := by omega
      go_wp2_with fail
      refine (string_any w.heap.size w.heap.size _ wr HB.out (by omega)).mono ?_
      rintro e w5 ⟨rfl, b5, c5, _⟩
      have HI5 := Lib.hid (HK.out rows.length wr w5 HI.out (by omega) c5)
      have HK5 := Lib.hid (keeps_base HKP.out c5)
      clear b5 c5
      go_wp2_with fail
      go_ret
      exact ⟨rfl, HI5.out, HK5.out⟩
set_option maxRecDepth 100000 in
set_option maxHeartbeats 4000000 in
theorem enclist_glob (la : Option Addr) (c : Nat) (rows : List (List Value)) (out : Nat → List UInt8) (g : Nat) (lb : Array Value) (eg : ∀ args w, (callFunc g args).run Tryz.prog w = .ok (.enter g args) w) (I : Nat → World → Prop) (G : Nat → Prop) (w : World)
    (hG : ∀ k, G k → k < w.heap.size) (hI : I 0 w) (hIk : ∀ j W W', I j W → w.heap.size ≤ W.heap.size → Below w.heap.size W W' → I j W') (hform : ∀ (j : Nat) (r : List Value), rows[j]? = some r → ∃ (e0 : Int) (e1 : Bool) (e2 : Int), r = [(.int .i64 e0), (.bool e1), (.int .i64 e2)]) (hrow : ∀ j W, I j W → RowAt W 3 (.slice la rows.length c) rows)
    (hone : ∀ W j r, rows[j]? = some r → I j W → w.heap.size ≤ W.heap.size → Calls Tryz.prog g (#[.agg r.toArray] ++ lb) W fun e w' => e = .returned (.string (bs (out j))) ∧ I (j + 1) w' ∧ Keeps G W w')
    (hlen : (numL rows.length).length + (outs out rows.length).length ≤ 140737488355328) :
    Calls Tryz.prog 45 #[.slice la rows.length c, .func (.func g) #[] lb] w fun e w' => e = .returned (.string (bs (numL rows.length ++ outs out rows.length))) ∧ I rows.length w' ∧ Keeps G w w' := by
  obtain ⟨W0, hW0⟩ : ∃ W0, w.alloc (.cells #[.pointer none, .slice none 0 0] 88) = W0 := ⟨_, rfl⟩
  have B0 : Below w.heap.size w W0 := by rw [← hW0]; exact (Below.refl _ _).alloc (Nat.le_refl _) _
  have z0 : W0.heap.size = w.heap.size + 1 := by rw [← hW0]; simp
  have H0 := Lib.hid (show Bld 88 w.heap.size w.heap.size [] W0 by rw [← hW0]; exact Lib.IsBuilderF.of (Lib.fresh_isBuilder _ _ _))
  have HW := Lib.hid hW0
  have HG := Lib.hid hG
  have HK := Lib.hid hIk
  have HROW := Lib.hid hrow
  have HF := Lib.hid hform
  have HO := Lib.hid hone
  have HL := Lib.hid hlen
  have HI0 := Lib.hid (hIk 0 w W0 hI (Nat.le_refl _) B0)
  have hN : rows.length ≤ 9223372036854775807 := by obtain ⟨_, _, _, h, _⟩ := hrow 0 w hI; exact h
  clear hW0 hG hIk hrow hone hform hlen hI
  go_enter Tryz.func45, Tryz.ntmps45
  go_wp2_with fail
  rw [HW.out]
  refine (number_int rows.length W0).mono ?_
  rintro e w1 ⟨rfl, c1⟩
  have z1 := c1.size
  have H1 := Lib.hid (Bld.later H0.out c1)
  have HI1 := Lib.hid (HK.out 0 W0 w1 HI0.out (by omega) (c1.mono (by omega)))
  have B1 := B0.trans (c1.mono (by omega))
  clear c1 B0
  go_wp2_with fail
  refine (write_any bt_builder w.heap.size w.heap.size [] _ w1 H1.out (by rw [bs_size]; have := HL.out; simp; omega) (by omega)).mono ?_
  rintro e w2 ⟨rfl, b2, c2, k2⟩
  rw [bs_data, List.nil_append] at b2
  have z2 := c2.size
  have H2 := Lib.hid b2
  have HI2 := Lib.hid (HK.out 0 w1 w2 HI1.out (by omega) c2)
  have HB2 := Lib.hid (Keeps.of_below (F := G) (B1.trans c2))
  clear b2 c2 k2 B1
  go_wp2_with fail
  go_loopg [14] rows.length (fun gk s14 wr => ∃ k : Nat, k ≤ rows.length ∧ rows.length - k ≤ gk ∧ s14 = .int .i64 k ∧ w.heap.size < wr.heap.size ∧ Hid (Bld 88 w.heap.size w.heap.size (numL rows.length ++ outs out k) wr) ∧ Hid (I k wr) ∧ Hid (Keeps G w wr))
  case atStart => exact ⟨0, Nat.zero_le _, by omega, rfl, by omega, by rw [show outs out 0 = [] from rfl, List.append_nil]; exact H2, HI2, HB2⟩
  case round =>
    obtain ⟨k, hk, hg, rfl, hsz, HB, HI, HKP⟩ := hrel
    by_cases hlt : k < rows.length
    · obtain ⟨r, hrk⟩ : ∃ r, rows[k]? = some r := ⟨_, List.getElem?_eq_getElem hlt⟩
      obtain ⟨la', cp', hv, _, hq⟩ := HROW.out k wr HI.out
      obtain ⟨rfl, rfl⟩ : la = la' ∧ c = cp' := by simp only [Value.slice.injEq] at hv; exact ⟨hv.1, hv.2.2⟩
      obtain ⟨hlen, b, off, rfl, hb, hcell⟩ := hq k r hrk
      obtain ⟨e0, e1, e2, rfl⟩ := HF.out k r hrk
      have x0 : wr.cell? ⟨b, off + k * 3, none⟩ = some (.int .i64 e0) := hcell 0 _ rfl
      have x1 : wr.cell? ⟨b, off + k * 3 + 1, none⟩ = some (.bool e1) := hcell 1 _ rfl
      have x2 : wr.cell? ⟨b, off + k * 3 + 2, none⟩ = some (.int .i64 e2) := hcell 2 _ rfl
      have hsz1 : (wr.alloc (.cells #[(.int .i64 e0), (.bool e1), (.int .i64 e2)] 79)).heap.size = wr.heap.size + 1 := by simp
      have HBX := Lib.hid (show Below w.heap.size wr (wr.alloc (.cells #[(.int .i64 e0), (.bool e1), (.int .i64 e2)] 79)) from (Below.refl _ _).alloc (by omega) _)
      have HI1 := Lib.hid (HK.out k wr _ HI.out (by omega) HBX.out)
      have HBB := Lib.hid (HB.out.alloc (.cells #[(.int .i64 e0), (.bool e1), (.int .i64 e2)] 79))
      have HKQ := Lib.hid (keeps_base HKP.out HBX.out)
      have hcall := HO.out _ k _ hrk HI1.out (by omega)
      have hltz : (k : Int) < (rows.length : Int) := by omega
      obtain ⟨S, hS⟩ : ∃ S, bs (out k) = S := ⟨_, rfl⟩
      rw [hS] at hcall
      have HS := Lib.hid hS
      clear hS hcell hrk hlen hq
      go_wp2_with (go_at_fn g; refine hcall.mono ?_; rintro e w3 ⟨rfl, i3, k3⟩)
      have z3 := k3.size
      have HI3 := Lib.hid i3
      have HK3 := Lib.hid (keeps_then HKQ.out k3)
      have HB3 := Lib.hid (Bld.keep (W' := w3) HBB.out fun j hj hjl => k3.block j hjl (fun hGj => by have := HG.out j hGj; omega))
      have hz3 : w.heap.size < w3.heap.size := by rw [hsz1] at z3; omega
      clear i3 k3
      go_wp2_with fail
      refine (write_any bt_builder w.heap.size w.heap.size _ S w3 HB3.out (by rw [← HS.out, bs_size]; have h9 := outs_le out (show k + 1 ≤ rows.length by omega); have h8 := HL.out; rw [show outs out (k + 1) = outs out k ++ out k from rfl, List.length_append] at h9; rw [List.length_append]; omega) (by omega)).mono ?_
      rintro e w4 ⟨rfl, b4, c4, _⟩
      have z4 := c4.size
      have HI4 := Lib.hid (HK.out (k + 1) w3 w4 HI3.out (by omega) c4)
      have HK4 := Lib.hid (keeps_base HK3.out c4)
      have HB4 := Lib.hid (show Bld 88 w.heap.size w.heap.size (numL rows.length ++ outs out (k + 1)) w4 by rw [show outs out (k + 1) = outs out k ++ out k from rfl, ← List.append_assoc]; rw [← HS.out, bs_data] at b4; exact b4)
      clear b4 c4
      go_wp2_with fail
      go_roundg (rows.length - (k + 1))
      case measure => omega
      case rel => exact ⟨k + 1, by omega, by omega, by go_num, by omega, HB4, HI4, HK4⟩
    · have hltz : ¬ (k : Int) < (rows.length : Int) := by omega
      obtain rfl : k = rows.length := by omega
      go_wp2_with fail
      refine (string_any w.heap.size w.heap.size _ wr HB.out (by omega)).mono ?_
      rintro e w5 ⟨rfl, b5, c5, _⟩
      have HI5 := Lib.hid (HK.out rows.length wr w5 HI.out (by omega) c5)
      have HK5 := Lib.hid (keeps_base HKP.out c5)
      clear b5 c5
      go_wp2_with fail
      go_ret
      exact ⟨rfl, HI5.out, HK5.out⟩
set_option maxRecDepth 100000 in
set_option maxHeartbeats 4000000 in
theorem enclist_exp (la : Option Addr) (c : Nat) (rows : List (List Value)) (out : Nat → List UInt8) (g : Nat) (lb : Array Value) (eg : ∀ args w, (callFunc g args).run Tryz.prog w = .ok (.enter g args) w) (I : Nat → World → Prop) (G : Nat → Prop) (w : World)
    (hG : ∀ k, G k → k < w.heap.size) (hI : I 0 w) (hIk : ∀ j W W', I j W → w.heap.size ≤ W.heap.size → Below w.heap.size W W' → I j W') (hform : ∀ (j : Nat) (r : List Value), rows[j]? = some r → ∃ (e0 : ByteArray) (e1 : Int) (e2 : Int), r = [(.string e0), (.int .i64 e1), (.int .i64 e2)]) (hrow : ∀ j W, I j W → RowAt W 3 (.slice la rows.length c) rows)
    (hone : ∀ W j r, rows[j]? = some r → I j W → w.heap.size ≤ W.heap.size → Calls Tryz.prog g (#[.agg r.toArray] ++ lb) W fun e w' => e = .returned (.string (bs (out j))) ∧ I (j + 1) w' ∧ Keeps G W w')
    (hlen : (numL rows.length).length + (outs out rows.length).length ≤ 140737488355328) :
    Calls Tryz.prog 49 #[.slice la rows.length c, .func (.func g) #[] lb] w fun e w' => e = .returned (.string (bs (numL rows.length ++ outs out rows.length))) ∧ I rows.length w' ∧ Keeps G w w' := by
  obtain ⟨W0, hW0⟩ : ∃ W0, w.alloc (.cells #[.pointer none, .slice none 0 0] 88) = W0 := ⟨_, rfl⟩
  have B0 : Below w.heap.size w W0 := by rw [← hW0]; exact (Below.refl _ _).alloc (Nat.le_refl _) _
  have z0 : W0.heap.size = w.heap.size + 1 := by rw [← hW0]; simp
  have H0 := Lib.hid (show Bld 88 w.heap.size w.heap.size [] W0 by rw [← hW0]; exact Lib.IsBuilderF.of (Lib.fresh_isBuilder _ _ _))
  have HW := Lib.hid hW0
  have HG := Lib.hid hG
  have HK := Lib.hid hIk
  have HROW := Lib.hid hrow
  have HF := Lib.hid hform
  have HO := Lib.hid hone
  have HL := Lib.hid hlen
  have HI0 := Lib.hid (hIk 0 w W0 hI (Nat.le_refl _) B0)
  have hN : rows.length ≤ 9223372036854775807 := by obtain ⟨_, _, _, h, _⟩ := hrow 0 w hI; exact h
  clear hW0 hG hIk hrow hone hform hlen hI
  go_enter Tryz.func49, Tryz.ntmps49
  go_wp2_with fail
  rw [HW.out]
  refine (number_int rows.length W0).mono ?_
  rintro e w1 ⟨rfl, c1⟩
  have z1 := c1.size
  have H1 := Lib.hid (Bld.later H0.out c1)
  have HI1 := Lib.hid (HK.out 0 W0 w1 HI0.out (by omega) (c1.mono (by omega)))
  have B1 := B0.trans (c1.mono (by omega))
  clear c1 B0
  go_wp2_with fail
  refine (write_any bt_builder w.heap.size w.heap.size [] _ w1 H1.out (by rw [bs_size]; have := HL.out; simp; omega) (by omega)).mono ?_
  rintro e w2 ⟨rfl, b2, c2, k2⟩
  rw [bs_data, List.nil_append] at b2
  have z2 := c2.size
  have H2 := Lib.hid b2
  have HI2 := Lib.hid (HK.out 0 w1 w2 HI1.out (by omega) c2)
  have HB2 := Lib.hid (Keeps.of_below (F := G) (B1.trans c2))
  clear b2 c2 k2 B1
  go_wp2_with fail
  go_loopg [14] rows.length (fun gk s14 wr => ∃ k : Nat, k ≤ rows.length ∧ rows.length - k ≤ gk ∧ s14 = .int .i64 k ∧ w.heap.size < wr.heap.size ∧ Hid (Bld 88 w.heap.size w.heap.size (numL rows.length ++ outs out k) wr) ∧ Hid (I k wr) ∧ Hid (Keeps G w wr))
  case atStart => exact ⟨0, Nat.zero_le _, by omega, rfl, by omega, by rw [show outs out 0 = [] from rfl, List.append_nil]; exact H2, HI2, HB2⟩
  case round =>
    obtain ⟨k, hk, hg, rfl, hsz, HB, HI, HKP⟩ := hrel
    by_cases hlt : k < rows.length
    · obtain ⟨r, hrk⟩ : ∃ r, rows[k]? = some r := ⟨_, List.getElem?_eq_getElem hlt⟩
      obtain ⟨la', cp', hv, _, hq⟩ := HROW.out k wr HI.out
      obtain ⟨rfl, rfl⟩ : la = la' ∧ c = cp' := by simp only [Value.slice.injEq] at hv; exact ⟨hv.1, hv.2.2⟩
      obtain ⟨hlen, b, off, rfl, hb, hcell⟩ := hq k r hrk
      obtain ⟨e0, e1, e2, rfl⟩ := HF.out k r hrk
      have x0 : wr.cell? ⟨b, off + k * 3, none⟩ = some (.string e0) := hcell 0 _ rfl
      have x1 : wr.cell? ⟨b, off + k * 3 + 1, none⟩ = some (.int .i64 e1) := hcell 1 _ rfl
      have x2 : wr.cell? ⟨b, off + k * 3 + 2, none⟩ = some (.int .i64 e2) := hcell 2 _ rfl
      have hsz1 : (wr.alloc (.cells #[(.string e0), (.int .i64 e1), (.int .i64 e2)] 81)).heap.size = wr.heap.size + 1 := by simp
      have HBX := Lib.hid (show Below w.heap.size wr (wr.alloc (.cells #[(.string e0), (.int .i64 e1), (.int .i64 e2)] 81)) from (Below.refl _ _).alloc (by omega) _)
      have HI1 := Lib.hid (HK.out k wr _ HI.out (by omega) HBX.out)
      have HBB := Lib.hid (HB.out.alloc (.cells #[(.string e0), (.int .i64 e1), (.int .i64 e2)] 81))
      have HKQ := Lib.hid (keeps_base HKP.out HBX.out)
      have hcall := HO.out _ k _ hrk HI1.out (by omega)
      have hltz : (k : Int) < (rows.length : Int) := by omega
      obtain ⟨S, hS⟩ : ∃ S, bs (out k) = S := ⟨_, rfl⟩
      rw [hS] at hcall
      have HS := Lib.hid hS
      clear hS hcell hrk hlen hq
      go_wp2_with (go_at_fn g; refine hcall.mono ?_; rintro e w3 ⟨rfl, i3, k3⟩)
      have z3 := k3.size
      have HI3 := Lib.hid i3
      have HK3 := Lib.hid (keeps_then HKQ.out k3)
      have HB3 := Lib.hid (Bld.keep (W' := w3) HBB.out fun j hj hjl => k3.block j hjl (fun hGj => by have := HG.out j hGj; omega))
      have hz3 : w.heap.size < w3.heap.size := by rw [hsz1] at z3; omega
      clear i3 k3
      go_wp2_with fail
      refine (write_any bt_builder w.heap.size w.heap.size _ S w3 HB3.out (by rw [← HS.out, bs_size]; have h9 := outs_le out (show k + 1 ≤ rows.length by omega); have h8 := HL.out; rw [show outs out (k + 1) = outs out k ++ out k from rfl, List.length_append] at h9; rw [List.length_append]; omega) (by omega)).mono ?_
      rintro e w4 ⟨rfl, b4, c4, _⟩
      have z4 := c4.size
      have HI4 := Lib.hid (HK.out (k + 1) w3 w4 HI3.out (by omega) c4)
      have HK4 := Lib.hid (keeps_base HK3.out c4)
      have HB4 := Lib.hid (show Bld 88 w.heap.size w.heap.size (numL rows.length ++ outs out (k + 1)) w4 by rw [show outs out (k + 1) = outs out k ++ out k from rfl, ← List.append_assoc]; rw [← HS.out, bs_data] at b4; exact b4)
      clear b4 c4
      go_wp2_with fail
      go_roundg (rows.length - (k + 1))
      case measure => omega
      case rel => exact ⟨k + 1, by omega, by omega, by go_num, by omega, HB4, HI4, HK4⟩
    · have hltz : ¬ (k : Int) < (rows.length : Int) := by omega
      obtain rfl : k = rows.length := by omega
      go_wp2_with fail
      refine (string_any w.heap.size w.heap.size _ wr HB.out (by omega)).mono ?_
      rintro e w5 ⟨rfl, b5, c5, _⟩
      have HI5 := Lib.hid (HK.out rows.length wr w5 HI.out (by omega) c5)
      have HK5 := Lib.hid (keeps_base HKP.out c5)
      clear b5 c5
      go_wp2_with fail
      go_ret
      exact ⟨rfl, HI5.out, HK5.out⟩
set_option maxRecDepth 100000 in
set_option maxHeartbeats 4000000 in
theorem enclist_data (la : Option Addr) (c : Nat) (rows : List (List Value)) (out : Nat → List UInt8) (g : Nat) (lb : Array Value) (eg : ∀ args w, (callFunc g args).run Tryz.prog w = .ok (.enter g args) w) (I : Nat → World → Prop) (G : Nat → Prop) (w : World)
    (hG : ∀ k, G k → k < w.heap.size) (hI : I 0 w) (hIk : ∀ j W W', I j W → w.heap.size ≤ W.heap.size → Below w.heap.size W W' → I j W') (hform : ∀ (j : Nat) (r : List Value), rows[j]? = some r → ∃ (e0 : Int) (e1 : ByteArray), r = [(.int .i64 e0), (.string e1)]) (hrow : ∀ j W, I j W → RowAt W 2 (.slice la rows.length c) rows)
    (hone : ∀ W j r, rows[j]? = some r → I j W → w.heap.size ≤ W.heap.size → Calls Tryz.prog g (#[.agg r.toArray] ++ lb) W fun e w' => e = .returned (.string (bs (out j))) ∧ I (j + 1) w' ∧ Keeps G W w')
    (hlen : (numL rows.length).length + (outs out rows.length).length ≤ 140737488355328) :
    Calls Tryz.prog 54 #[.slice la rows.length c, .func (.func g) #[] lb] w fun e w' => e = .returned (.string (bs (numL rows.length ++ outs out rows.length))) ∧ I rows.length w' ∧ Keeps G w w' := by
  obtain ⟨W0, hW0⟩ : ∃ W0, w.alloc (.cells #[.pointer none, .slice none 0 0] 88) = W0 := ⟨_, rfl⟩
  have B0 : Below w.heap.size w W0 := by rw [← hW0]; exact (Below.refl _ _).alloc (Nat.le_refl _) _
  have z0 : W0.heap.size = w.heap.size + 1 := by rw [← hW0]; simp
  have H0 := Lib.hid (show Bld 88 w.heap.size w.heap.size [] W0 by rw [← hW0]; exact Lib.IsBuilderF.of (Lib.fresh_isBuilder _ _ _))
  have HW := Lib.hid hW0
  have HG := Lib.hid hG
  have HK := Lib.hid hIk
  have HROW := Lib.hid hrow
  have HF := Lib.hid hform
  have HO := Lib.hid hone
  have HL := Lib.hid hlen
  have HI0 := Lib.hid (hIk 0 w W0 hI (Nat.le_refl _) B0)
  have hN : rows.length ≤ 9223372036854775807 := by obtain ⟨_, _, _, h, _⟩ := hrow 0 w hI; exact h
  clear hW0 hG hIk hrow hone hform hlen hI
  go_enter Tryz.func54, Tryz.ntmps54
  go_wp2_with fail
  rw [HW.out]
  refine (number_int rows.length W0).mono ?_
  rintro e w1 ⟨rfl, c1⟩
  have z1 := c1.size
  have H1 := Lib.hid (Bld.later H0.out c1)
  have HI1 := Lib.hid (HK.out 0 W0 w1 HI0.out (by omega) (c1.mono (by omega)))
  have B1 := B0.trans (c1.mono (by omega))
  clear c1 B0
  go_wp2_with fail
  refine (write_any bt_builder w.heap.size w.heap.size [] _ w1 H1.out (by rw [bs_size]; have := HL.out; simp; omega) (by omega)).mono ?_
  rintro e w2 ⟨rfl, b2, c2, k2⟩
  rw [bs_data, List.nil_append] at b2
  have z2 := c2.size
  have H2 := Lib.hid b2
  have HI2 := Lib.hid (HK.out 0 w1 w2 HI1.out (by omega) c2)
  have HB2 := Lib.hid (Keeps.of_below (F := G) (B1.trans c2))
  clear b2 c2 k2 B1
  go_wp2_with fail
  go_loopg [14] rows.length (fun gk s14 wr => ∃ k : Nat, k ≤ rows.length ∧ rows.length - k ≤ gk ∧ s14 = .int .i64 k ∧ w.heap.size < wr.heap.size ∧ Hid (Bld 88 w.heap.size w.heap.size (numL rows.length ++ outs out k) wr) ∧ Hid (I k wr) ∧ Hid (Keeps G w wr))
  case atStart => exact ⟨0, Nat.zero_le _, by omega, rfl, by omega, by rw [show outs out 0 = [] from rfl, List.append_nil]; exact H2, HI2, HB2⟩
  case round =>
    obtain ⟨k, hk, hg, rfl, hsz, HB, HI, HKP⟩ := hrel
    by_cases hlt : k < rows.length
    · obtain ⟨r, hrk⟩ : ∃ r, rows[k]? = some r := ⟨_, List.getElem?_eq_getElem hlt⟩
      obtain ⟨la', cp', hv, _, hq⟩ := HROW.out k wr HI.out
      obtain ⟨rfl, rfl⟩ : la = la' ∧ c = cp' := by simp only [Value.slice.injEq] at hv; exact ⟨hv.1, hv.2.2⟩
      obtain ⟨hlen, b, off, rfl, hb, hcell⟩ := hq k r hrk
      obtain ⟨e0, e1, rfl⟩ := HF.out k r hrk
      have x0 : wr.cell? ⟨b, off + k * 2, none⟩ = some (.int .i64 e0) := hcell 0 _ rfl
      have x1 : wr.cell? ⟨b, off + k * 2 + 1, none⟩ = some (.string e1) := hcell 1 _ rfl
      have hsz1 : (wr.alloc (.cells #[(.int .i64 e0), (.string e1)] 83)).heap.size = wr.heap.size + 1 := by simp
      have HBX := Lib.hid (show Below w.heap.size wr (wr.alloc (.cells #[(.int .i64 e0), (.string e1)] 83)) from (Below.refl _ _).alloc (by omega) _)
      have HI1 := Lib.hid (HK.out k wr _ HI.out (by omega) HBX.out)
      have HBB := Lib.hid (HB.out.alloc (.cells #[(.int .i64 e0), (.string e1)] 83))
      have HKQ := Lib.hid (keeps_base HKP.out HBX.out)
      have hcall := HO.out _ k _ hrk HI1.out (by omega)
      have hltz : (k : Int) < (rows.length : Int) := by omega
      obtain ⟨S, hS⟩ : ∃ S, bs (out k) = S := ⟨_, rfl⟩
      rw [hS] at hcall
      have HS := Lib.hid hS
      clear hS hcell hrk hlen hq
      go_wp2_with (go_at_fn g; refine hcall.mono ?_; rintro e w3 ⟨rfl, i3, k3⟩)
      have z3 := k3.size
      have HI3 := Lib.hid i3
      have HK3 := Lib.hid (keeps_then HKQ.out k3)
      have HB3 := Lib.hid (Bld.keep (W' := w3) HBB.out fun j hj hjl => k3.block j hjl (fun hGj => by have := HG.out j hGj; omega))
      have hz3 : w.heap.size < w3.heap.size := by rw [hsz1] at z3; omega
      clear i3 k3
      go_wp2_with fail
      refine (write_any bt_builder w.heap.size w.heap.size _ S w3 HB3.out (by rw [← HS.out, bs_size]; have h9 := outs_le out (show k + 1 ≤ rows.length by omega); have h8 := HL.out; rw [show outs out (k + 1) = outs out k ++ out k from rfl, List.length_append] at h9; rw [List.length_append]; omega) (by omega)).mono ?_
      rintro e w4 ⟨rfl, b4, c4, _⟩
      have z4 := c4.size
      have HI4 := Lib.hid (HK.out (k + 1) w3 w4 HI3.out (by omega) c4)
      have HK4 := Lib.hid (keeps_base HK3.out c4)
      have HB4 := Lib.hid (show Bld 88 w.heap.size w.heap.size (numL rows.length ++ outs out (k + 1)) w4 by rw [show outs out (k + 1) = outs out k ++ out k from rfl, ← List.append_assoc]; rw [← HS.out, bs_data] at b4; exact b4)
      clear b4 c4
      go_wp2_with fail
      go_roundg (rows.length - (k + 1))
      case measure => omega
      case rel => exact ⟨k + 1, by omega, by omega, by go_num, by omega, HB4, HI4, HK4⟩
    · have hltz : ¬ (k : Int) < (rows.length : Int) := by omega
      obtain rfl : k = rows.length := by omega
      go_wp2_with fail
      refine (string_any w.heap.size w.heap.size _ wr HB.out (by omega)).mono ?_
      rintro e w5 ⟨rfl, b5, c5, _⟩
      have HI5 := Lib.hid (HK.out rows.length wr w5 HI.out (by omega) c5)
      have HK5 := Lib.hid (keeps_base HKP.out c5)
      clear b5 c5
      go_wp2_with fail
      go_ret
      exact ⟨rfl, HI5.out, HK5.out⟩
set_option maxRecDepth 100000 in
set_option maxHeartbeats 4000000 in
theorem enclist_run (la : Option Addr) (c : Nat) (rows : List (List Value)) (out : Nat → List UInt8) (g : Nat) (lb : Array Value) (eg : ∀ args w, (callFunc g args).run Tryz.prog w = .ok (.enter g args) w) (I : Nat → World → Prop) (G : Nat → Prop) (w : World)
    (hG : ∀ k, G k → k < w.heap.size) (hI : I 0 w) (hIk : ∀ j W W', I j W → w.heap.size ≤ W.heap.size → Below w.heap.size W W' → I j W') (hform : ∀ (j : Nat) (r : List Value), rows[j]? = some r → ∃ (e0 : Int) (e1 : Int), r = [(.int .i64 e0), (.int .u8 e1)]) (hrow : ∀ j W, I j W → RowAt W 2 (.slice la rows.length c) rows)
    (hone : ∀ W j r, rows[j]? = some r → I j W → w.heap.size ≤ W.heap.size → Calls Tryz.prog g (#[.agg r.toArray] ++ lb) W fun e w' => e = .returned (.string (bs (out j))) ∧ I (j + 1) w' ∧ Keeps G W w')
    (hlen : (numL rows.length).length + (outs out rows.length).length ≤ 140737488355328) :
    Calls Tryz.prog 120 #[.slice la rows.length c, .func (.func g) #[] lb] w fun e w' => e = .returned (.string (bs (numL rows.length ++ outs out rows.length))) ∧ I rows.length w' ∧ Keeps G w w' := by
  obtain ⟨W0, hW0⟩ : ∃ W0, w.alloc (.cells #[.pointer none, .slice none 0 0] 88) = W0 := ⟨_, rfl⟩
  have B0 : Below w.heap.size w W0 := by rw [← hW0]; exact (Below.refl _ _).alloc (Nat.le_refl _) _
  have z0 : W0.heap.size = w.heap.size + 1 := by rw [← hW0]; simp
  have H0 := Lib.hid (show Bld 88 w.heap.size w.heap.size [] W0 by rw [← hW0]; exact Lib.IsBuilderF.of (Lib.fresh_isBuilder _ _ _))
  have HW := Lib.hid hW0
  have HG := Lib.hid hG
  have HK := Lib.hid hIk
  have HROW := Lib.hid hrow
  have HF := Lib.hid hform
  have HO := Lib.hid hone
  have HL := Lib.hid hlen
  have HI0 := Lib.hid (hIk 0 w W0 hI (Nat.le_refl _) B0)
  have hN : rows.length ≤ 9223372036854775807 := by obtain ⟨_, _, _, h, _⟩ := hrow 0 w hI; exact h
  clear hW0 hG hIk hrow hone hform hlen hI
  go_enter Tryz.func120, Tryz.ntmps120
  go_wp2_with fail
  rw [HW.out]
  refine (number_int rows.length W0).mono ?_
  rintro e w1 ⟨rfl, c1⟩
  have z1 := c1.size
  have H1 := Lib.hid (Bld.later H0.out c1)
  have HI1 := Lib.hid (HK.out 0 W0 w1 HI0.out (by omega) (c1.mono (by omega)))
  have B1 := B0.trans (c1.mono (by omega))
  clear c1 B0
  go_wp2_with fail
  refine (write_any bt_builder w.heap.size w.heap.size [] _ w1 H1.out (by rw [bs_size]; have := HL.out; simp; omega) (by omega)).mono ?_
  rintro e w2 ⟨rfl, b2, c2, k2⟩
  rw [bs_data, List.nil_append] at b2
  have z2 := c2.size
  have H2 := Lib.hid b2
  have HI2 := Lib.hid (HK.out 0 w1 w2 HI1.out (by omega) c2)
  have HB2 := Lib.hid (Keeps.of_below (F := G) (B1.trans c2))
  clear b2 c2 k2 B1
  go_wp2_with fail
  go_loopg [14] rows.length (fun gk s14 wr => ∃ k : Nat, k ≤ rows.length ∧ rows.length - k ≤ gk ∧ s14 = .int .i64 k ∧ w.heap.size < wr.heap.size ∧ Hid (Bld 88 w.heap.size w.heap.size (numL rows.length ++ outs out k) wr) ∧ Hid (I k wr) ∧ Hid (Keeps G w wr))
  case atStart => exact ⟨0, Nat.zero_le _, by omega, rfl, by omega, by rw [show outs out 0 = [] from rfl, List.append_nil]; exact H2, HI2, HB2⟩
  case round =>
    obtain ⟨k, hk, hg, rfl, hsz, HB, HI, HKP⟩ := hrel
    by_cases hlt : k < rows.length
    · obtain ⟨r, hrk⟩ : ∃ r, rows[k]? = some r := ⟨_, List.getElem?_eq_getElem hlt⟩
      obtain ⟨la', cp', hv, _, hq⟩ := HROW.out k wr HI.out
      obtain ⟨rfl, rfl⟩ : la = la' ∧ c = cp' := by simp only [Value.slice.injEq] at hv; exact ⟨hv.1, hv.2.2⟩
      obtain ⟨hlen, b, off, rfl, hb, hcell⟩ := hq k r hrk
      obtain ⟨e0, e1, rfl⟩ := HF.out k r hrk
      have x0 : wr.cell? ⟨b, off + k * 2, none⟩ = some (.int .i64 e0) := hcell 0 _ rfl
      have x1 : wr.cell? ⟨b, off + k * 2 + 1, none⟩ = some (.int .u8 e1) := hcell 1 _ rfl
      have hsz1 : (wr.alloc (.cells #[(.int .i64 e0), (.int .u8 e1)] 181)).heap.size = wr.heap.size + 1 := by simp
      have HBX := Lib.hid (show Below w.heap.size wr (wr.alloc (.cells #[(.int .i64 e0), (.int .u8 e1)] 181)) from (Below.refl _ _).alloc (by omega) _)
      have HI1 := Lib.hid (HK.out k wr _ HI.out (by omega) HBX.out)
      have HBB := Lib.hid (HB.out.alloc (.cells #[(.int .i64 e0), (.int .u8 e1)] 181))
      have HKQ := Lib.hid (keeps_base HKP.out HBX.out)
      have hcall := HO.out _ k _ hrk HI1.out (by omega)
      have hltz : (k : Int) < (rows.length : Int) := by omega
      obtain ⟨S, hS⟩ : ∃ S, bs (out k) = S := ⟨_, rfl⟩
      rw [hS] at hcall
      have HS := Lib.hid hS
      clear hS hcell hrk hlen hq
      go_wp2_with (go_at_fn g; refine hcall.mono ?_; rintro e w3 ⟨rfl, i3, k3⟩)
      have z3 := k3.size
      have HI3 := Lib.hid i3
      have HK3 := Lib.hid (keeps_then HKQ.out k3)
      have HB3 := Lib.hid (Bld.keep (W' := w3) HBB.out fun j hj hjl => k3.block j hjl (fun hGj => by have := HG.out j hGj; omega))
      have hz3 : w.heap.size < w3.heap.size := by rw [hsz1] at z3; omega
      clear i3 k3
      go_wp2_with fail
      refine (write_any bt_builder w.heap.size w.heap.size _ S w3 HB3.out (by rw [← HS.out, bs_size]; have h9 := outs_le out (show k + 1 ≤ rows.length by omega); have h8 := HL.out; rw [show outs out (k + 1) = outs out k ++ out k from rfl, List.length_append] at h9; rw [List.length_append]; omega) (by omega)).mono ?_
      rintro e w4 ⟨rfl, b4, c4, _⟩
      have z4 := c4.size
      have HI4 := Lib.hid (HK.out (k + 1) w3 w4 HI3.out (by omega) c4)
      have HK4 := Lib.hid (keeps_base HK3.out c4)
      have HB4 := Lib.hid (show Bld 88 w.heap.size w.heap.size (numL rows.length ++ outs out (k + 1)) w4 by rw [show outs out (k + 1) = outs out k ++ out k from rfl, ← List.append_assoc]; rw [← HS.out, bs_data] at b4; exact b4)
      clear b4 c4
      go_wp2_with fail
      go_roundg (rows.length - (k + 1))
      case measure => omega
      case rel => exact ⟨k + 1, by omega, by omega, by go_num, by omega, HB4, HI4, HK4⟩
    · have hltz : ¬ (k : Int) < (rows.length : Int) := by omega
      obtain rfl : k = rows.length := by omega
      go_wp2_with fail
      refine (string_any w.heap.size w.heap.size _ wr HB.out (by omega)).mono ?_
      rintro e w5 ⟨rfl, b5, c5, _⟩
      have HI5 := Lib.hid (HK.out rows.length wr w5 HI.out (by omega) c5)
      have HK5 := Lib.hid (keeps_base HKP.out c5)
      clear b5 c5
      go_wp2_with fail
      go_ret
      exact ⟨rfl, HI5.out, HK5.out⟩
set_option maxRecDepth 100000 in
set_option maxHeartbeats 4000000 in
theorem enclist_int (la : Option Addr) (c : Nat) (rows : List (List Value)) (out : Nat → List UInt8) (g : Nat) (lb : Array Value) (eg : ∀ args w, (callFunc g args).run Tryz.prog w = .ok (.enter g args) w) (I : Nat → World → Prop) (G : Nat → Prop) (w : World)
    (hG : ∀ k, G k → k < w.heap.size) (hI : I 0 w) (hIk : ∀ j W W', I j W → w.heap.size ≤ W.heap.size → Below w.heap.size W W' → I j W') (hform : ∀ (j : Nat) (r : List Value), rows[j]? = some r → ∃ (e0 : Int), r = [(.int .i64 e0)]) (hrow : ∀ j W, I j W → RowAt W 1 (.slice la rows.length c) rows)
    (hone : ∀ W j r, rows[j]? = some r → I j W → w.heap.size ≤ W.heap.size → Calls Tryz.prog g (#[(r.getD 0 undef)] ++ lb) W fun e w' => e = .returned (.string (bs (out j))) ∧ I (j + 1) w' ∧ Keeps G W w')
    (hlen : (numL rows.length).length + (outs out rows.length).length ≤ 140737488355328) :
    Calls Tryz.prog 118 #[.slice la rows.length c, .func (.func g) #[] lb] w fun e w' => e = .returned (.string (bs (numL rows.length ++ outs out rows.length))) ∧ I rows.length w' ∧ Keeps G w w' := by
  obtain ⟨W0, hW0⟩ : ∃ W0, w.alloc (.cells #[.pointer none, .slice none 0 0] 88) = W0 := ⟨_, rfl⟩
  have B0 : Below w.heap.size w W0 := by rw [← hW0]; exact (Below.refl _ _).alloc (Nat.le_refl _) _
  have z0 : W0.heap.size = w.heap.size + 1 := by rw [← hW0]; simp
  have H0 := Lib.hid (show Bld 88 w.heap.size w.heap.size [] W0 by rw [← hW0]; exact Lib.IsBuilderF.of (Lib.fresh_isBuilder _ _ _))
  have HW := Lib.hid hW0
  have HG := Lib.hid hG
  have HK := Lib.hid hIk
  have HROW := Lib.hid hrow
  have HF := Lib.hid hform
  have HO := Lib.hid hone
  have HL := Lib.hid hlen
  have HI0 := Lib.hid (hIk 0 w W0 hI (Nat.le_refl _) B0)
  have hN : rows.length ≤ 9223372036854775807 := by obtain ⟨_, _, _, h, _⟩ := hrow 0 w hI; exact h
  clear hW0 hG hIk hrow hone hform hlen hI
  go_enter Tryz.func118, Tryz.ntmps118
  go_wp2_with fail
  rw [HW.out]
  refine (number_int rows.length W0).mono ?_
  rintro e w1 ⟨rfl, c1⟩
  have z1 := c1.size
  have H1 := Lib.hid (Bld.later H0.out c1)
  have HI1 := Lib.hid (HK.out 0 W0 w1 HI0.out (by omega) (c1.mono (by omega)))
  have B1 := B0.trans (c1.mono (by omega))
  clear c1 B0
  go_wp2_with fail
  refine (write_any bt_builder w.heap.size w.heap.size [] _ w1 H1.out (by rw [bs_size]; have := HL.out; simp; omega) (by omega)).mono ?_
  rintro e w2 ⟨rfl, b2, c2, k2⟩
  rw [bs_data, List.nil_append] at b2
  have z2 := c2.size
  have H2 := Lib.hid b2
  have HI2 := Lib.hid (HK.out 0 w1 w2 HI1.out (by omega) c2)
  have HB2 := Lib.hid (Keeps.of_below (F := G) (B1.trans c2))
  clear b2 c2 k2 B1
  go_wp2_with fail
  go_loopg [14] rows.length (fun gk s14 wr => ∃ k : Nat, k ≤ rows.length ∧ rows.length - k ≤ gk ∧ s14 = .int .i64 k ∧ w.heap.size < wr.heap.size ∧ Hid (Bld 88 w.heap.size w.heap.size (numL rows.length ++ outs out k) wr) ∧ Hid (I k wr) ∧ Hid (Keeps G w wr))
  case atStart => exact ⟨0, Nat.zero_le _, by omega, rfl, by omega, by rw [show outs out 0 = [] from rfl, List.append_nil]; exact H2, HI2, HB2⟩
  case round =>
    obtain ⟨k, hk, hg, rfl, hsz, HB, HI, HKP⟩ := hrel
    by_cases hlt : k < rows.length
    · obtain ⟨r, hrk⟩ : ∃ r, rows[k]? = some r := ⟨_, List.getElem?_eq_getElem hlt⟩
      obtain ⟨la', cp', hv, _, hq⟩ := HROW.out k wr HI.out
      obtain ⟨rfl, rfl⟩ : la = la' ∧ c = cp' := by simp only [Value.slice.injEq] at hv; exact ⟨hv.1, hv.2.2⟩
      obtain ⟨hlen, b, off, rfl, hb, hcell⟩ := hq k r hrk
      obtain ⟨e0, rfl⟩ := HF.out k r hrk
      have x0 : wr.cell? ⟨b, off + k, none⟩ = some (.int .i64 e0) := by have h := hcell 0 _ rfl; rw [Nat.mul_one] at h; exact h
      have HI1 := HI
      have HBB := HB
      have HKQ := HKP
      have hcall := HO.out _ k _ hrk HI1.out (by omega)
      change Calls Tryz.prog g (#[.int .i64 e0] ++ lb) wr _ at hcall
      have hltz : (k : Int) < (rows.length : Int) := by omega
      obtain ⟨S, hS⟩ : ∃ S, bs (out k) = S := ⟨_, rfl⟩
      rw [hS] at hcall
      have HS := Lib.hid hS
      clear hS hcell hrk hlen hq
      go_wp2_with (go_at_fn g; refine hcall.mono ?_; rintro e w3 ⟨rfl, i3, k3⟩)
      have z3 := k3.size
      have HI3 := Lib.hid i3
      have HK3 := Lib.hid (keeps_then HKQ.out k3)
      have HB3 := Lib.hid (Bld.keep (W' := w3) HBB.out fun j hj hjl => k3.block j hjl (fun hGj => by have := HG.out j hGj; omega))
      have hz3 : w.heap.size < w3.heap.size := by omega
      clear i3 k3
      go_wp2_with fail
      refine (write_any bt_builder w.heap.size w.heap.size _ S w3 HB3.out (by rw [← HS.out, bs_size]; have h9 := outs_le out (show k + 1 ≤ rows.length by omega); have h8 := HL.out; rw [show outs out (k + 1) = outs out k ++ out k from rfl, List.length_append] at h9; rw [List.length_append]; omega) (by omega)).mono ?_
      rintro e w4 ⟨rfl, b4, c4, _⟩
      have z4 := c4.size
      have HI4 := Lib.hid (HK.out (k + 1) w3 w4 HI3.out (by omega) c4)
      have HK4 := Lib.hid (keeps_base HK3.out c4)
      have HB4 := Lib.hid (show Bld 88 w.heap.size w.heap.size (numL rows.length ++ outs out (k + 1)) w4 by rw [show outs out (k + 1) = outs out k ++ out k from rfl, ← List.append_assoc]; rw [← HS.out, bs_data] at b4; exact b4)
      clear b4 c4
      go_wp2_with fail
      go_roundg (rows.length - (k + 1))
      case measure => omega
      case rel => exact ⟨k + 1, by omega, by omega, by go_num, by omega, HB4, HI4, HK4⟩
    · have hltz : ¬ (k : Int) < (rows.length : Int) := by omega
      obtain rfl : k = rows.length := by omega
      go_wp2_with fail
      refine (string_any w.heap.size w.heap.size _ wr HB.out (by omega)).mono ?_
      rintro e w5 ⟨rfl, b5, c5, _⟩
      have HI5 := Lib.hid (HK.out rows.length wr w5 HI.out (by omega) c5)
      have HK5 := Lib.hid (keeps_base HKP.out c5)
      clear b5 c5
      go_wp2_with fail
      go_ret
      exact ⟨rfl, HI5.out, HK5.out⟩
end Go.Proofs.YteidhccnbfikcaaGreatDoor.Enc
