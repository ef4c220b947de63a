/- Both functions refuse the same numbers, and compute the same power as the inverse. -/
import Derived.Test.YtfiffkjfmpngfaaFx20
import Derived.Test.YtfiffkjfmpngfaaFx23
import Derived.Test.YtfiffkjfmpngfaaFx24
import Derived.Test.YtfiffkjfmpngfaaPow
import Derived.KernelRfl
set_option linter.unusedVariables false
set_option linter.unusedSimpArgs false
set_option linter.unusedSectionVars false
namespace Go.Proofs.Ytfiffkjfmpngfaa.F
open Go.RowKit Go.Proofs.YtfiffkjfmpngfaaW.PrintWords Go.Proofs.YtfiffkjfmpngfaaW.PrintLast Go.Proofs.Ytfiffkjfmpngfaa.Lin

theorem FnExactInverseOf_pure : laws_FnExactInverseOf.Pure := by
  intro a p _ _
  refine ⟨101, ?_⟩
  unfold laws_FnExactInverseOf.f spec_InverseOf.f impl_InverseOf.f
  rw [ask_tells a p (by omega), elements_tells p [a] (by omega)]
  by_cases h : codeOf p [a] = 0
  · obtain ⟨hp, hr⟩ := codeOf_zero.mp h
    have hr := hr a (by simp)
    have e1 := spec_inverse_tells hp hr.1 hr.2 (k := 100) (by omega)
    have e2 := inverse_tells hp hr.1 hr.2 (k := 101) (by omega)
    by_cases ha : a = 0
    · subst ha
      simp [h, spec_InverseOf.j0]
    · simp [h, spec_InverseOf.j0, ha, e1, e2]
  · simp [h, spec_InverseOf.j0]
end Go.Proofs.Ytfiffkjfmpngfaa.F
namespace Go.Proofs.Ytfiffkjfmpngfaa.Pure
theorem FnExactInverseOf : F.laws_FnExactInverseOf.Pure := F.FnExactInverseOf_pure
end Go.Proofs.Ytfiffkjfmpngfaa.Pure
