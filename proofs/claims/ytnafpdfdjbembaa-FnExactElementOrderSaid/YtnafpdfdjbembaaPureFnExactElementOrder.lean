/- Both functions refuse the same numbers, and their loops are the same; a power that is 1 is met, by the little theorem of Fermat. -/
import Derived.Test.YtnafpdfdjbembaaFx5
import Derived.Test.YtnafpdfdjbembaaFx13
import Derived.Test.YtnafpdfdjbembaaFx14
import Derived.Test.YtnafpdfdjbembaaOrdA
import Derived.KernelRfl
set_option linter.unusedVariables false
set_option linter.unusedSimpArgs false
set_option linter.unusedSectionVars false
namespace Go.Proofs.Ytnafpdfdjbembaa.F
open Go.RowKit Go.Proofs.YtnafpdfdjbembaaW.PrintWords Go.Proofs.YtnafpdfdjbembaaW.PrintLast Go.Proofs.Ytnafpdfdjbembaa.Lin

theorem FnExactElementOrder_pure : laws_FnExactElementOrder.Pure := by
  intro a p _ _
  refine ⟨301, ?_⟩
  unfold laws_FnExactElementOrder.f spec_ElementOrder.f impl_ElementOrder.f
  rw [ask_tells a p (by omega), elements_tells p [a] (by omega)]
  by_cases h : codeOf p [a] = 0
  · obtain ⟨hp, hr⟩ := codeOf_zero.mp h
    have hr := hr a (by simp)
    by_cases ha : a = 0
    · subst ha
      simp [h, spec_ElementOrder.j0]
    · obtain ⟨r, e1, _⟩ := order_tells hp (show 0 < a by omega) hr.2 (k := 300) (by omega)
      obtain ⟨r', e2, _⟩ := order_tells hp (show 0 < a by omega) hr.2 (k := 301) (by omega)
      have e3 := impl_orderOf.mono a p
      have e4 : r = r' := by
        have := at_rounds e3 (show 300 ≤ 301 by omega) e1
        rw [e2] at this
        have := Option.some.inj this
        omega
      subst e4
      simp [h, spec_ElementOrder.j0, ha, e1, e2, same_order]
  · simp [h, spec_ElementOrder.j0]
end Go.Proofs.Ytnafpdfdjbembaa.F
namespace Go.Proofs.Ytnafpdfdjbembaa.Pure
theorem FnExactElementOrder : F.laws_FnExactElementOrder.Pure := F.FnExactElementOrder_pure
end Go.Proofs.Ytnafpdfdjbembaa.Pure
