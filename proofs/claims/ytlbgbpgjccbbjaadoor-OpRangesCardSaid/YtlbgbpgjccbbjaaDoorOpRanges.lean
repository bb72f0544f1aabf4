/-
  The walk of OpRanges: it answers true. No condition beyond what the theorem names.
-/
import Derived.Test.YtlbgbpgjccbbjaaDoorOpRangesA
import Derived.Test.YtlbgbpgjccbbjaaDoorOpRangesB
namespace Go.Proofs.YtlbgbpgjccbbjaaDoor.Op
open Go.RowKit Go.Maps
set_option linter.unusedVariables false
theorem ranges_walk (a : Nat) (n : Int) (w : World) (hE : OpEnv w) (ha : a < 256) :
    Calls Tryd.prog 7 #[.int .u8 a, .int .i64 n] w fun e w' => e = .returned (.bool true) ∧ Below w.heap.size w w' := by
  cases hi : opInfo (a : Int) with
  | none => exact ranges_none a n w hE ha hi
  | some i =>
    obtain ⟨nm, sh, p, r⟩ := i
    obtain ⟨s0, s1⟩ := shape_range hi
    rcases (show sh = 0 ∨ sh = 1 ∨ sh = 2 ∨ sh = 3 ∨ sh = 4 ∨ sh = 5 ∨ sh = 6 ∨ sh = 7 by simp at s0 s1; omega) with rfl | rfl | rfl | rfl | rfl | rfl | rfl | rfl
    · rcases (show n < 0 ∨ n = 0 ∨ (0 < n ∧ n < 4294967296) ∨ 4294967296 ≤ n by omega) with h | rfl | h | h
      · exact ranges_0_neg a nm p r n h w hE ha hi
      · exact ranges_0_z a nm p r w hE ha hi
      · exact ranges_0_pos a nm p r n h w hE ha hi
      · exact ranges_0_big a nm p r n h w hE ha hi
    · rcases (show n < 0 ∨ n = 0 ∨ n = 64 ∨ n = 126 ∨ n = 127 ∨ (0 < n ∧ n < 4294967296 ∧ n ≠ 64 ∧ n ≠ 126 ∧ n ≠ 127) ∨ 4294967296 ≤ n by omega) with h | rfl | rfl | rfl | rfl | h | h
      · exact ranges_1_neg a nm p r n h w hE ha hi
      · exact ranges_1_z a nm p r w hE ha hi
      · exact ranges_1_c64 a nm p r w hE ha hi
      · exact ranges_1_c126 a nm p r w hE ha hi
      · exact ranges_1_c127 a nm p r w hE ha hi
      · exact ranges_1_oth a nm p r n h w hE ha hi
      · exact ranges_1_big a nm p r n h w hE ha hi
    · rcases (show n < 0 ∨ n = 0 ∨ (0 < n ∧ n < 4294967296) ∨ 4294967296 ≤ n by omega) with h | rfl | h | h
      · exact ranges_2_neg a nm p r n h w hE ha hi
      · exact ranges_2_z a nm p r w hE ha hi
      · exact ranges_2_pos a nm p r n h w hE ha hi
      · exact ranges_2_big a nm p r n h w hE ha hi
    · rcases (show n < 0 ∨ n = 0 ∨ (0 < n ∧ n < 4294967296) ∨ 4294967296 ≤ n by omega) with h | rfl | h | h
      · exact ranges_3_neg a nm p r n h w hE ha hi
      · exact ranges_3_z a nm p r w hE ha hi
      · exact ranges_3_pos a nm p r n h w hE ha hi
      · exact ranges_3_big a nm p r n h w hE ha hi
    · rcases (show n < 0 ∨ n = 0 ∨ (0 < n ∧ n < 4294967296) ∨ 4294967296 ≤ n by omega) with h | rfl | h | h
      · exact ranges_4_neg a nm p r n h w hE ha hi
      · exact ranges_4_z a nm p r w hE ha hi
      · exact ranges_4_pos a nm p r n h w hE ha hi
      · exact ranges_4_big a nm p r n h w hE ha hi
    · rcases (show n < 0 ∨ n = 0 ∨ (0 < n ∧ n < 4294967296) ∨ 4294967296 ≤ n by omega) with h | rfl | h | h
      · exact ranges_5_neg a nm p r n h w hE ha hi
      · exact ranges_5_z a nm p r w hE ha hi
      · exact ranges_5_pos a nm p r n h w hE ha hi
      · exact ranges_5_big a nm p r n h w hE ha hi
    · rcases (show n < 0 ∨ n = 0 ∨ (0 < n ∧ n < 4294967296) ∨ 4294967296 ≤ n by omega) with h | rfl | h | h
      · exact ranges_6_neg a nm p r n h w hE ha hi
      · exact ranges_6_z a nm p r w hE ha hi
      · exact ranges_6_pos a nm p r n h w hE ha hi
      · exact ranges_6_big a nm p r n h w hE ha hi
    · cases hk : ((a : Int) == 66)
      · rcases (show n < -2147483648 ∨ (-2147483648 ≤ n ∧ n < 0) ∨ n = 0 ∨ (0 < n ∧ n < 2147483648) ∨ (2147483648 ≤ n ∧ n < 4294967296) ∨ 4294967296 ≤ n by omega) with h | h | rfl | h | h | h
        · exact ranges_7_n31 a nm p r n h hk w hE ha hi
        · exact ranges_7_n0 a nm p r n h hk w hE ha hi
        · exact ranges_7_z a nm p r hk w hE ha hi
        · exact ranges_7_p31 a nm p r n h hk w hE ha hi
        · exact ranges_7_p32 a nm p r n h hk w hE ha hi
        · exact ranges_7_big a nm p r n h hk w hE ha hi
      · rcases (show n < -2147483648 ∨ (-2147483648 ≤ n ∧ n < 0) ∨ n = 0 ∨ (0 < n ∧ n < 2147483648) ∨ (2147483648 ≤ n ∧ n < 4294967296) ∨ 4294967296 ≤ n by omega) with h | h | rfl | h | h | h
        · exact ranges_7k_n31 a nm p r n h hk w hE ha hi
        · exact ranges_7k_n0 a nm p r n h hk w hE ha hi
        · exact ranges_7k_z a nm p r hk w hE ha hi
        · exact ranges_7k_p31 a nm p r n h hk w hE ha hi
        · exact ranges_7k_p32 a nm p r n h hk w hE ha hi
        · exact ranges_7k_big a nm p r n h hk w hE ha hi
end Go.Proofs.YtlbgbpgjccbbjaaDoor.Op
