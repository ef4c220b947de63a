/- Both functions accept the same vectors, and the vector stays as it is. -/
import Derived.Test.YtfiffkjfmpngfaaFx30
import Derived.Test.YtfiffkjfmpngfaaFx34
import Derived.Test.YtfiffkjfmpngfaaVcd
import Derived.KernelRfl
set_option linter.unusedVariables false
set_option linter.unusedSimpArgs false
set_option linter.unusedSectionVars false
namespace Go.Proofs.Ytfiffkjfmpngfaa.F
open Go.RowKit Go.Proofs.YtfiffkjfmpngfaaW.PrintWords Go.Proofs.YtfiffkjfmpngfaaW.PrintLast Go.Proofs.Ytfiffkjfmpngfaa.Lin

theorem FnExactValidVector_pure : laws_FnExactValidVector.Pure := by
  intro l p _ hl _ _
  have hl : l.length ≤ 35184372088832 := by omega
  refine ⟨l.length + 20, ?_⟩
  unfold laws_FnExactValidVector.f spec_ValidVector.f
  by_cases h : (l.length : Int) > 1048576
  · rw [if_pos h]
  · rw [if_neg h, copy_tells hl (by omega)]
    simp only [Option.bind_some]
    rw [prime_tells p (by omega), validVector_tells p (by omega), eq_tells hl (by omega)]
    unfold vecOk
    by_cases hp : isP p = true
    · have hp2 := isP_ge hp
      rw [numbers_tells hp2.1 hp2.2 hl (by omega)]
      simp [hp]
    · simp [hp]
end Go.Proofs.Ytfiffkjfmpngfaa.F
namespace Go.Proofs.Ytfiffkjfmpngfaa.Pure
theorem FnExactValidVector : F.laws_FnExactValidVector.Pure := F.FnExactValidVector_pure
end Go.Proofs.Ytfiffkjfmpngfaa.Pure
