/-
  What package num's reckon32, reckon64 and Two answer. No condition beyond what each theorem names.
-/
import Derived.Test.YtebikmnegemggaaDoorNumA
namespace Go.Proofs.YtebikmnegemggaaDoor.Num
open Go.RowKit
set_option linter.unusedVariables false

def divR32 (q : Int × Bool) : Int × Int := if q.2 then (q.1 % 4294967296, 0) else (0, 6)
def divR64 (q : Int × Bool) : Int × Int := if q.2 then (IntKind.u64.wrap q.1, 0) else (0, 6)
def divRU (q : Int × Bool) : Int × Int := if q.2 then (q.1, 0) else (0, 6)
/-- what is done with two numbers of 32 bits, of 64 -/
def r32p (kind c d : Nat) : Int × Int :=
  match kind with
  | 0 => (((c : Int) + d) % 4294967296, 0)
  | 1 => (((c : Int) - d) % 4294967296, 0)
  | 2 => (((c : Int) * d) % 4294967296, 0)
  | 7 => (IntKind.u64.wrap (bits .and .u32 c d), 0)
  | 8 => (IntKind.u64.wrap (bits .or .u32 c d), 0)
  | 9 => (IntKind.u64.wrap (bits .xor .u32 c d), 0)
  | 10 => ((c : Int) * 2 ^ (d % 32) % 4294967296, 0)
  | 11 => (wrap32 c / 2 ^ (d % 32) % 4294967296, 0)
  | 12 => (IntKind.u64.wrap ((c : Int) / 2 ^ (d % 32)), 0)
  | 13 => (IntKind.u64.wrap (rotl 32 c (d % 32) : Nat), 0)
  | _ => (IntKind.u64.wrap (rotl 32 c ((32 - d % 32) % 32) : Nat), 0)
def r64p (kind c d : Nat) : Int × Int :=
  match kind with
  | 0 => (IntKind.u64.wrap ((c : Int) + d), 0)
  | 1 => (IntKind.u64.wrap ((c : Int) - d), 0)
  | 2 => (IntKind.u64.wrap ((c : Int) * d), 0)
  | 7 => (bits .and .u64 c d, 0)
  | 8 => (bits .or .u64 c d, 0)
  | 9 => (bits .xor .u64 c d, 0)
  | 10 => (IntKind.u64.wrap ((c : Int) * 2 ^ (d % 64)), 0)
  | 11 => (IntKind.u64.wrap (wrap64 c / 2 ^ (d % 64)), 0)
  | 12 => ((c : Int) / 2 ^ (d % 64), 0)
  | 13 => ((rotl 64 c (d % 64) : Nat), 0)
  | _ => ((rotl 64 c ((64 - d % 64) % 64) : Nat), 0)
def r32 (kind c d : Nat) : Int × Int :=
  if kind = 3 then divR32 (divA (-2147483648) (wrap32 c) (wrap32 d) false)
  else if kind = 4 then divRU (divU c d false)
  else if kind = 5 then divR32 (divA (-2147483648) (wrap32 c) (wrap32 d) true)
  else if kind = 6 then divRU (divU c d true)
  else r32p kind c d
theorem r32_3 (c d : Nat) : r32 3 c d = divR32 (divA (-2147483648) (wrap32 c) (wrap32 d) false) := by unfold r32; rw [if_pos rfl]
theorem r32_4 (c d : Nat) : r32 4 c d = divRU (divU c d false) := by unfold r32; rw [if_neg (by decide), if_pos rfl]
theorem r32_5 (c d : Nat) : r32 5 c d = divR32 (divA (-2147483648) (wrap32 c) (wrap32 d) true) := by unfold r32; rw [if_neg (by decide), if_neg (by decide), if_pos rfl]
theorem r32_6 (c d : Nat) : r32 6 c d = divRU (divU c d true) := by unfold r32; rw [if_neg (by decide), if_neg (by decide), if_neg (by decide), if_pos rfl]
theorem r32_p (kind c d : Nat) (h3 : kind ≠ 3) (h4 : kind ≠ 4) (h5 : kind ≠ 5) (h6 : kind ≠ 6) : r32 kind c d = r32p kind c d := by unfold r32; rw [if_neg h3, if_neg h4, if_neg h5, if_neg h6]
def r64 (kind c d : Nat) : Int × Int :=
  if kind = 3 then divR64 (divA (-9223372036854775808) (wrap64 c) (wrap64 d) false)
  else if kind = 4 then divRU (divU c d false)
  else if kind = 5 then divR64 (divA (-9223372036854775808) (wrap64 c) (wrap64 d) true)
  else if kind = 6 then divRU (divU c d true)
  else r64p kind c d
theorem r64_3 (c d : Nat) : r64 3 c d = divR64 (divA (-9223372036854775808) (wrap64 c) (wrap64 d) false) := by unfold r64; rw [if_pos rfl]
theorem r64_4 (c d : Nat) : r64 4 c d = divRU (divU c d false) := by unfold r64; rw [if_neg (by decide), if_pos rfl]
theorem r64_5 (c d : Nat) : r64 5 c d = divR64 (divA (-9223372036854775808) (wrap64 c) (wrap64 d) true) := by unfold r64; rw [if_neg (by decide), if_neg (by decide), if_pos rfl]
theorem r64_6 (c d : Nat) : r64 6 c d = divRU (divU c d true) := by unfold r64; rw [if_neg (by decide), if_neg (by decide), if_neg (by decide), if_pos rfl]
theorem r64_p (kind c d : Nat) (h3 : kind ≠ 3) (h4 : kind ≠ 4) (h5 : kind ≠ 5) (h6 : kind ≠ 6) : r64 kind c d = r64p kind c d := by unfold r64; rw [if_neg h3, if_neg h4, if_neg h5, if_neg h6]
theorem retE {a a' b b' : Int} {k : IntKind} (h1 : a = a') (h2 : b = b') : Ending.returned (.tuple #[.int k a, .int .i64 b]) = .returned (.tuple #[.int k a', .int .i64 b']) := by rw [h1, h2]
end Go.Proofs.YtebikmnegemggaaDoor.Num
