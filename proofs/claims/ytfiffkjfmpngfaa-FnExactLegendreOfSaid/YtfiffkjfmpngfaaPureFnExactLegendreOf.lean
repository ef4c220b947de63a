/- Both functions refuse the same numbers, and answer 0, 1 or -1 by the same search of a root. -/
import Derived.Test.YtfiffkjfmpngfaaFx15
import Derived.Test.YtfiffkjfmpngfaaFx16
import Derived.Test.YtfiffkjfmpngfaaFx17
import Derived.Test.YtfiffkjfmpngfaaFld
import Derived.Test.YtfiffkjfmpngfaaSqr
import Derived.KernelRfl
set_option linter.unusedVariables false
set_option linter.unusedSimpArgs false
set_option linter.unusedSectionVars false
namespace Go.Proofs.Ytfiffkjfmpngfaa.F
open Go.RowKit Go.Proofs.YtfiffkjfmpngfaaW.PrintWords Go.Proofs.YtfiffkjfmpngfaaW.PrintLast Go.Proofs.Ytfiffkjfmpngfaa.Lin

theorem FnExactLegendreOf_pure : laws_FnExactLegendreOf.Pure := by
  intro a p _ _
  refine ⟨300, ?_⟩
  unfold laws_FnExactLegendreOf.f spec_LegendreOf.f impl_LegendreOf.f
  rw [ask_tells a p (by omega), elements_tells p [a] (by omega)]
  by_cases h : codeOf p [a] = 0
  · obtain ⟨hp, _⟩ := codeOf_zero.mp h
    have := isP_ge hp
    obtain ⟨x, h1, h2, h3⟩ := sqr_tells a (p := p) (by omega) (by omega) (k := 300) (by omega)
    simp only [h, Option.bind_some, if_true, h1, h2]
    by_cases ha : a = 0
    · simp [ha]
    · rcases h3 with ⟨h4, _, h5⟩ | ⟨h4, _⟩
      · have hx : x ≠ 0 := fun e => by subst e; simp at h5; omega
        have hx2 : ¬ x < 0 := by omega
        have hx3 : x > 0 := by omega
        simp [ha, hx2, hx3]
      · subst h4; simp [ha]
  · simp [h]
end Go.Proofs.Ytfiffkjfmpngfaa.F
namespace Go.Proofs.Ytfiffkjfmpngfaa.Pure
theorem FnExactLegendreOf : F.laws_FnExactLegendreOf.Pure := F.FnExactLegendreOf_pure
end Go.Proofs.Ytfiffkjfmpngfaa.Pure
