/-
  A list of laid variables may be told in another order: the last two changed about. Plain but for the form's words.
-/
import Derived.Lib.LaidCaseMet
namespace Go.Proofs.YtekpdcofjhdiiaaGreatDoor.Laid
set_option linter.unusedVariables false
theorem vars_swap {P : Program} {w : World} {a b : String × DataW Unit} : ∀ (l : List (String × DataW Unit)) (ps : List MemPlace), DataW.LaidVars P w (l ++ [a, b]) ps → ∃ qs, DataW.LaidVars P w (l ++ [b, a]) qs ∧ ps.Perm qs
  | [], ps, h => by
    obtain ⟨n, d⟩ := a
    obtain ⟨m, e⟩ := b
    obtain ⟨g, t, cs, fuel, p, q, h1, h2, h3, h4, ⟨g', t', cs', fuel', p', q', k1, k2, k3, k4, rfl, rfl⟩, rfl⟩ := h
    refine ⟨_, ⟨g', t', cs', fuel', p', _, k1, k2, k3, k4, ⟨g, t, cs, fuel, p, [], h1, h2, h3, h4, rfl, rfl⟩, rfl⟩, ?_⟩
    simp only [List.append_nil]
    exact List.perm_append_comm
  | (n, d) :: l, ps, h => by
    obtain ⟨g, t, cs, fuel, p, q, h1, h2, h3, h4, h5, rfl⟩ := h
    obtain ⟨q', k1, k2⟩ := vars_swap l q h5
    exact ⟨_, ⟨g, t, cs, fuel, p, q', h1, h2, h3, h4, k1, rfl⟩, k2.append_left _⟩
theorem laidMet_swap {P : Program} {w : World} {a b : String × DataW Unit} (l : List (String × DataW Unit)) (h : laidMet P (l ++ [a, b]) w) : laidMet P (l ++ [b, a]) w := by
  obtain ⟨ps, h1, h2, h3⟩ := h
  obtain ⟨qs, k1, k2⟩ := vars_swap l ps h1
  exact ⟨qs, k1, k2.nodup_iff.1 h2, fun b off hb => h3 b off (k2.mem_iff.2 hb)⟩
end Go.Proofs.YtekpdcofjhdiiaaGreatDoor.Laid
