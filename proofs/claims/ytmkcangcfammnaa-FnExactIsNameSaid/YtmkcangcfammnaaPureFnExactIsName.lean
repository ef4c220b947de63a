/- Both functions tell the same of any text. -/
import Derived.Test.YtmkcangcfammnaaFx53
import Derived.Test.YtmkcangcfammnaaByt
import Derived.KernelRfl
set_option linter.unusedVariables false
set_option linter.unusedSimpArgs false
set_option linter.unusedSectionVars false
namespace Go.Proofs.Ytmkcangcfammnaa.F
open Go.RowKit Go.Proofs.YtmkcangcfammnaaW.PrintWords Go.Proofs.YtmkcangcfammnaaW.PrintLast Go.Proofs.Ytmkcangcfammnaa.Lin

theorem FnExactIsName_pure : laws_FnExactIsName.Pure := by
  intro s _
  by_cases hs : s.size ≤ 1048576
  · obtain ⟨v, hv⟩ := specName_total s hs (k := s.size + 3) (Nat.le_refl _)
    refine ⟨s.size + 3, ?_⟩
    unfold laws_FnExactIsName.f
    rw [if_neg (by omega), same_name s hs s.size, hv]
    simp
  · refine ⟨0, ?_⟩
    unfold laws_FnExactIsName.f
    rw [if_pos (by omega)]
end Go.Proofs.Ytmkcangcfammnaa.F
namespace Go.Proofs.Ytmkcangcfammnaa.Pure
theorem FnExactIsName : F.laws_FnExactIsName.Pure := F.FnExactIsName_pure
end Go.Proofs.Ytmkcangcfammnaa.Pure
