/- Both functions tell the same decimal text of any number. -/
import Derived.Test.YtepdfefgkhodlaaDoorFx2
import Derived.Test.YtepdfefgkhodlaaDoorFx4
import Derived.Test.YtepdfefgkhodlaaDoorDec
import Derived.KernelRfl
set_option linter.unusedVariables false
set_option linter.unusedSimpArgs false
set_option linter.unusedSectionVars false
namespace Go.Proofs.YtepdfefgkhodlaaDoor.F
open Go.RowKit Go.Proofs.YtepdfefgkhodlaaDoorW.PrintWords Go.Proofs.YtepdfefgkhodlaaDoorW.PrintLast Go.Proofs.YtepdfefgkhodlaaDoor.Lin

theorem FnExactDecimal_pure : laws_FnExactDecimal.Pure := by
  intro n hn
  have h := wf_bounds hn
  refine ⟨200, ?_⟩
  unfold laws_FnExactDecimal.f spec_Decimal.f
  rw [l01Dec_tells h.1 h.2 (Nat.le_refl _), decimal_tells h.1 h.2]
  simp
end Go.Proofs.YtepdfefgkhodlaaDoor.F
namespace Go.Proofs.YtepdfefgkhodlaaDoor.Pure
theorem FnExactDecimal : F.laws_FnExactDecimal.Pure := F.FnExactDecimal_pure
end Go.Proofs.YtepdfefgkhodlaaDoor.Pure
