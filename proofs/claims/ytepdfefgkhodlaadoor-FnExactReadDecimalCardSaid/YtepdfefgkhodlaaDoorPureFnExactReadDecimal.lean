/- Both functions read the same number out of any text. -/
import Derived.Test.YtepdfefgkhodlaaDoorFx16
import Derived.Test.YtepdfefgkhodlaaDoorFx18
import Derived.Test.YtepdfefgkhodlaaDoorNmb
import Derived.KernelRfl
set_option linter.unusedVariables false
set_option linter.unusedSimpArgs false
set_option linter.unusedSectionVars false
namespace Go.Proofs.YtepdfefgkhodlaaDoor.F
open Go.RowKit Go.Proofs.YtepdfefgkhodlaaDoorW.PrintWords Go.Proofs.YtepdfefgkhodlaaDoorW.PrintLast Go.Proofs.YtepdfefgkhodlaaDoor.Lin

theorem FnExactReadDecimal_pure : laws_FnExactReadDecimal.Pure := by
  intro s _
  by_cases hs : s.size ≤ 1048576
  · refine ⟨s.size + 8, ?_⟩
    unfold laws_FnExactReadDecimal.f spec_ReadDecimal.f
    rw [if_neg (by omega), number_tells s hs (Nat.le_refl _), readDecimal_tells s (by omega)]
    simp
  · refine ⟨0, ?_⟩
    unfold laws_FnExactReadDecimal.f
    rw [if_pos (by omega)]
end Go.Proofs.YtepdfefgkhodlaaDoor.F
namespace Go.Proofs.YtepdfefgkhodlaaDoor.Pure
theorem FnExactReadDecimal : F.laws_FnExactReadDecimal.Pure := F.FnExactReadDecimal_pure
end Go.Proofs.YtepdfefgkhodlaaDoor.Pure
