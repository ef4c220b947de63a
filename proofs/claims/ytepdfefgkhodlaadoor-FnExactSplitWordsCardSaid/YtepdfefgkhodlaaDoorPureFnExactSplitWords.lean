/- Both functions part any text into the same words. -/
import Derived.Test.YtepdfefgkhodlaaDoorFx13
import Derived.Test.YtepdfefgkhodlaaDoorWds
import Derived.KernelRfl
set_option linter.unusedVariables false
set_option linter.unusedSimpArgs false
set_option linter.unusedSectionVars false
namespace Go.Proofs.YtepdfefgkhodlaaDoor.F
open Go.RowKit Go.Proofs.YtepdfefgkhodlaaDoorW.PrintWords Go.Proofs.YtepdfefgkhodlaaDoorW.PrintLast Go.Proofs.YtepdfefgkhodlaaDoor.Lin

theorem FnExactSplitWords_pure : laws_FnExactSplitWords.Pure := by
  intro s _
  by_cases hs : s.size ≤ 1048576
  · have hl : ((wordsOf s.data.toList).map B).length ≤ 1048577 := by
      have h1 := splitL_length 32 s.data.toList
      have h2 := size_len s
      rw [List.length_map]
      exact Nat.le_trans (List.length_filter_le _ _) (by omega)
    refine ⟨1048700, ?_⟩
    unfold laws_FnExactSplitWords.f
    rw [if_neg (by omega), specWords_tells s hs (by omega), Option.bind_some, implWords_tells s hs (by omega), Option.bind_some]
    generalize (wordsOf s.data.toList).map B = l at *
    rw [eqS_tells l (by omega) (by omega), Option.bind_some, if_pos rfl, markS_tells (by omega) (by omega) (by omega) (by omega), Option.bind_some]
    dsimp only
    rw [heldS_tells (by omega) (by omega) (by omega) (by omega), Option.bind_some, if_neg (by omega), if_pos rfl, Option.bind_some, eqS_tells l (by omega) (by omega), Option.bind_some, if_pos rfl, Option.bind_some, if_neg (by omega), if_pos rfl]
  · refine ⟨0, ?_⟩
    unfold laws_FnExactSplitWords.f
    rw [if_pos (by omega)]
end Go.Proofs.YtepdfefgkhodlaaDoor.F
namespace Go.Proofs.YtepdfefgkhodlaaDoor.Pure
theorem FnExactSplitWords : F.laws_FnExactSplitWords.Pure := F.FnExactSplitWords_pure
end Go.Proofs.YtepdfefgkhodlaaDoor.Pure
