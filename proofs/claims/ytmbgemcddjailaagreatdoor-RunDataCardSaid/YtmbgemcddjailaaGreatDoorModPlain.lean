/-
  A module as data, and what may be written of it. Plain: no program in sight.
-/
import Derived.Test.YtmbgemcddjailaaGreatDoorOpTable
import Derived.Lib.SlTrimSet
namespace Go.Proofs.YtmbgemcddjailaaGreatDoor.Mod
open Go.RowKit Go.Proofs.YtmbgemcddjailaaGreatDoor.Op
set_option linter.unusedVariables false
/-- an instruction, its labels -/
structure InsL where
  op : Int
  a : Int
  b : Int
  labels : List Int
structure FT where
  params : ByteArray
  results : ByteArray
structure FuncP where
  ty : Int
  locals : ByteArray
  code : List InsL
structure MemP where
  least : Int
  most : Int
structure GlobP where
  ty : Int
  mut_ : Bool
  init : Int
structure ExpP where
  name : ByteArray
  kind : Int
  index : Int
structure DataP where
  offset : Int
  bytes : ByteArray
structure ModP where
  types : List FT
  funcs : List FuncP
  memory : List MemP
  globals : List GlobP
  exports : List ExpP
  start : Int
  data : List DataP
def FT.cells (x : FT) : List Value := [.string x.params, .string x.results]
def MemP.cells (x : MemP) : List Value := [.int .i64 x.least, .int .i64 x.most]
def GlobP.cells (x : GlobP) : List Value := [.int .i64 x.ty, .bool x.mut_, .int .i64 x.init]
def ExpP.cells (x : ExpP) : List Value := [.string x.name, .int .i64 x.kind, .int .i64 x.index]
def DataP.cells (x : DataP) : List Value := [.int .i64 x.offset, .string x.bytes]
/-- what is open behind an instruction -/
def stepS (st : List Int) (o : Int) : Option (List Int) :=
  if o = 2 ∨ o = 3 ∨ o = 4 then some (st ++ [o]) else if o = 5 then (if st.getLast? = some 4 then some (st.dropLast ++ [5]) else none) else if o = 11 then (if st = [] then none else some st.dropLast) else some st
/-- blocks in one another, with an end of their own -/
def structB : List Int → List Int → Bool
  | _, [] => false
  | st, o :: os => if o = 11 ∧ st = [] then os.isEmpty else match stepS st o with
    | none => false
    | some s => structB s os
/-- how many of the first n hold -/
def anyN (p : Nat → Bool) (n : Nat) : Bool := (List.range n).any p
def idxN (p : Nat → Bool) (n : Nat) : Int := match (List.range n).find? p with
  | some k => k
  | none => -1
theorem anyN_iff (p : Nat → Bool) (n : Nat) : anyN p n = decide (0 ≤ idxN p n) := by
  unfold anyN idxN
  rw [Bool.eq_iff_iff, List.any_eq_true, decide_eq_true_iff]
  constructor
  · rintro ⟨x, hx, hp⟩
    cases h : (List.range n).find? p with
    | none => exact absurd hp (by simpa using List.find?_eq_none.1 h x hx)
    | some k => exact Int.natCast_nonneg k
  · intro h
    cases h2 : (List.range n).find? p with
    | none => rw [h2] at h; exact absurd h (by decide)
    | some k => exact ⟨k, List.mem_of_find?_eq_some h2, List.find?_some h2⟩
theorem idxN_hit {p : Nat → Bool} {n k : Nat} (hk : k < n) (hp : p k = true) (h : ∀ j, j < k → p j = false) : idxN p n = k := by
  unfold idxN
  have : (List.range n).find? p = some k := by
    rw [List.find?_eq_some_iff_getElem]
    refine ⟨hp, k, by simpa using hk, by simp, fun j hj => ?_⟩
    simp [h j hj]
  rw [this]
theorem idxN_miss {p : Nat → Bool} {n : Nat} (h : ∀ j, j < n → p j = false) : idxN p n = -1 := by
  unfold idxN
  have : (List.range n).find? p = none := by
    rw [List.find?_eq_none]
    intro x hx
    simp [h x (by simpa using hx)]
  rw [this]
theorem anyN_not {α : Type} (l : List α) (q : α → Bool) (p : Nat → Bool) (h : ∀ (j : Nat) x, l[j]? = some x → p j = !q x) : anyN p l.length = !l.all q := by
  unfold anyN
  rw [Bool.eq_iff_iff, List.any_eq_true, Bool.not_eq_true', List.all_eq_false]
  constructor
  · rintro ⟨j, hj, hp⟩
    have hj2 : j < l.length := by simpa using hj
    have := h j _ (List.getElem?_eq_getElem hj2)
    exact ⟨_, List.getElem_mem hj2, by rw [this] at hp; simpa using hp⟩
  · rintro ⟨x, hx, hp⟩
    obtain ⟨j, hj⟩ := List.getElem?_of_mem hx
    exact ⟨j, by simpa using (List.getElem?_eq_some_iff.1 hj).1, by rw [h j x hj]; simpa using hp⟩
/-- bytes that are value types, at most so many -/
def typesB (s : ByteArray) (most : Int) : Bool := decide ((s.size : Int) ≤ most) && s.data.toList.all fun c => c == 127 || c == 126
/-- all of a list -/
def allB {α : Type} (l : List α) (q : α → Bool) : Bool := decide (l.length ≤ 4096) && l.all q
def word1 (n : Int) : Bool := decide (0 ≤ n) && decide (n < 4294967296)
theorem drop_nil {α : Type} (p : α → Bool) : ∀ l : List α, (l.dropWhile p = []) ↔ l.all p = true
  | [] => by simp
  | a :: l => by
    rw [List.dropWhile_cons]
    cases h : p a
    · simp [h]
    · simp [h, drop_nil p l]
theorem drop_all {α : Type} (p : α → Bool) : ∀ l : List α, (l.dropWhile p).all p = l.all p
  | [] => rfl
  | a :: l => by
    rw [List.dropWhile_cons]
    cases h : p a
    · simp [h]
    · simp [h, drop_all p l]
theorem trim_nil (l : List UInt8) : (Lib.trimS l [127, 126] = []) ↔ (l.all fun c => c == 127 || c == 126) = true := by
  have he : (fun c : UInt8 => ([127, 126] : List UInt8).contains c) = fun c => c == 127 || c == 126 := by
    funext c
    rw [Bool.eq_iff_iff]
    simp
  unfold Lib.trimS Lib.trimLeftS Lib.trimRightS
  rw [he, drop_nil, List.all_reverse, drop_all, List.all_reverse]
theorem typesB_long {s : ByteArray} {most : Int} (h : most < s.size) : typesB s most = false := by
  unfold typesB
  rw [decide_eq_false (by omega)]
  rfl
theorem typesB_short {s : ByteArray} {most : Int} (h : (s.size : Int) ≤ most) : typesB s most = decide (Lib.trimS s.data.toList [127, 126] = []) := by
  unfold typesB
  rw [decide_eq_true h, Bool.true_and, Bool.eq_iff_iff, decide_eq_true_iff, trim_nil]
end Go.Proofs.YtmbgemcddjailaaGreatDoor.Mod
