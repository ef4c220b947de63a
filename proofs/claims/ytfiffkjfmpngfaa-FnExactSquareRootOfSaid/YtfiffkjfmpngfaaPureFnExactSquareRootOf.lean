/- Both functions refuse the same numbers, and search the least square root in the same order. -/
import Derived.Test.YtfiffkjfmpngfaaFx4
import Derived.Test.YtfiffkjfmpngfaaFx5
import Derived.Test.YtfiffkjfmpngfaaFx12
import Derived.Test.YtfiffkjfmpngfaaFx13
import Derived.Test.YtfiffkjfmpngfaaFx14
import Derived.Test.YtfiffkjfmpngfaaFld
import Derived.Test.YtfiffkjfmpngfaaSqr
import Derived.KernelRfl
set_option linter.unusedVariables false
set_option linter.unusedSimpArgs false
set_option linter.unusedSectionVars false
namespace Go.Proofs.Ytfiffkjfmpngfaa.F
open Go.RowKit Go.Proofs.YtfiffkjfmpngfaaW.PrintWords Go.Proofs.YtfiffkjfmpngfaaW.PrintLast Go.Proofs.Ytfiffkjfmpngfaa.Lin

theorem FnExactSquareRootOf_pure : laws_FnExactSquareRootOf.Pure := by
  intro a p _ _
  refine ⟨300, ?_⟩
  unfold laws_FnExactSquareRootOf.f spec_SquareRootOf.f impl_SquareRootOf.f
  rw [ask_tells a p (by omega), elements_tells p [a] (by omega)]
  by_cases h : codeOf p [a] = 0
  · obtain ⟨hp, _⟩ := codeOf_zero.mp h
    have := isP_ge hp
    obtain ⟨x, h1, h2, _⟩ := sqr_tells a (p := p) (by omega) (by omega) (k := 300) (by omega)
    simp only [h, Option.bind_some, if_true, h1, h2]
    by_cases hx : x < 0
    · simp [hx]
    · simp [hx]
  · simp [h]
end Go.Proofs.Ytfiffkjfmpngfaa.F
namespace Go.Proofs.Ytfiffkjfmpngfaa.Pure
theorem FnExactSquareRootOf : F.laws_FnExactSquareRootOf.Pure := F.FnExactSquareRootOf_pure
end Go.Proofs.Ytfiffkjfmpngfaa.Pure
