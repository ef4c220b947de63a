/- Both functions tell the same text of any list. -/
import Derived.Test.YtepdfefgkhodlaaDoorFx30
import Derived.Test.YtepdfefgkhodlaaDoorTxt
import Derived.Test.YtepdfefgkhodlaaDoorVecS
import Derived.KernelRfl
set_option linter.unusedVariables false
set_option linter.unusedSimpArgs false
set_option linter.unusedSectionVars false
namespace Go.Proofs.YtepdfefgkhodlaaDoor.F
open Go.RowKit Go.Proofs.YtepdfefgkhodlaaDoorW.PrintWords Go.Proofs.YtepdfefgkhodlaaDoorW.PrintLast Go.Proofs.YtepdfefgkhodlaaDoor.Lin

theorem FnExactListText_pure : laws_FnExactListText.Pure := by
  intro l hm _ hw
  have hb : ∀ x ∈ l, -9223372036854775808 ≤ x ∧ x ≤ 9223372036854775807 := fun x hx => wf_bounds (hw x hx)
  by_cases hl : l.length ≤ 1048576
  · refine ⟨l.length + 500, ?_⟩
    unfold laws_FnExactListText.f
    rw [if_neg (by omega), copy_tells (by omega) (by omega), Option.bind_some, specListText_tells l (by omega) hb (by omega), Option.bind_some, Option.bind_some, implListText_tells l (by omega) hb (by omega), Option.bind_some, if_pos rfl, Option.bind_some, eq_tells (by omega) (by omega), Option.bind_some, decide_eq_true rfl, if_pos rfl]
  · refine ⟨0, ?_⟩
    unfold laws_FnExactListText.f
    rw [if_pos (by omega)]
end Go.Proofs.YtepdfefgkhodlaaDoor.F
namespace Go.Proofs.YtepdfefgkhodlaaDoor.Pure
theorem FnExactListText : F.laws_FnExactListText.Pure := F.FnExactListText_pure
end Go.Proofs.YtepdfefgkhodlaaDoor.Pure
