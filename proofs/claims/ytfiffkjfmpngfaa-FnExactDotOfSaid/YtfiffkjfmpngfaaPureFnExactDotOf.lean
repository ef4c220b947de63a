/- Both functions refuse the same vectors, return the same dot product, and leave the vectors as they are. -/
import Derived.Test.YtfiffkjfmpngfaaFx46
import Derived.Test.YtfiffkjfmpngfaaFx49
import Derived.Test.YtfiffkjfmpngfaaFx50
import Derived.Test.YtfiffkjfmpngfaaDot
import Derived.KernelRfl
set_option linter.unusedVariables false
set_option linter.unusedSimpArgs false
set_option linter.unusedSectionVars false
namespace Go.Proofs.Ytfiffkjfmpngfaa.F
open Go.RowKit Go.Proofs.YtfiffkjfmpngfaaW.PrintWords Go.Proofs.YtfiffkjfmpngfaaW.PrintLast Go.Proofs.Ytfiffkjfmpngfaa.Lin

theorem FnExactDotOf_pure : laws_FnExactDotOf.Pure := by
  intro a b p _ ha _ _ hb _ _
  have ha : a.length ≤ 35184372088832 := by omega
  have hb : b.length ≤ 35184372088832 := by omega
  refine ⟨a.length + b.length + 22, ?_⟩
  unfold laws_FnExactDotOf.f spec_DotOf.f impl_DotOf.f
  by_cases h1 : (a.length : Int) > 1048576
  · rw [if_pos h1]
  · rw [if_neg h1]
    by_cases h2 : (b.length : Int) > 1048576
    · rw [if_pos h2]
    · rw [if_neg h2, copy_tells ha (by omega)]
      simp only [Option.bind_some]
      rw [copy_tells hb (by omega)]
      simp only [Option.bind_some]
      rw [two_tells p ha hb (by omega), vectors_tells a b p (by omega)]
      have c1 := copy_tells ha (k := a.length + b.length + 21) (by omega)
      have c2 := copy_tells hb (k := a.length + b.length + 21) (by omega)
      have c3 := eq_tells (a := a) (b := a) ha (k := a.length + b.length + 21) (by omega)
      have c4 := eq_tells (a := b) (b := b) hb (k := a.length + b.length + 21) (by omega)
      by_cases hc : codeTwo a b p = 0
      · obtain ⟨hp, _, h3, h4, h5⟩ := codeTwo_zero.mp hc
        have hp2 := isP_ge hp
        obtain ⟨e1, e2⟩ := dot_tells hp2.1 hp2.2 h5 ha h3 h4 (k := a.length + b.length + 22) (by omega)
        simp [hc, e1, e2, laws_FnExactDotOf.j0, c1, c2, c3, c4]
      · simp [hc, laws_FnExactDotOf.j0, c1, c2, c3, c4]
end Go.Proofs.Ytfiffkjfmpngfaa.F
namespace Go.Proofs.Ytfiffkjfmpngfaa.Pure
theorem FnExactDotOf : F.laws_FnExactDotOf.Pure := F.FnExactDotOf_pure
end Go.Proofs.Ytfiffkjfmpngfaa.Pure
