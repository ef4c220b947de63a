-- Written by gprint.py, a program of this session's that drives the kit's print, for this claim. Not trusted: checked as any text.
import Derived.Test.YtioooobmfcmefaaFx0
import Derived.Test.YtioooobmfcmefaaFx55
namespace Go.Proofs.Ytioooobmfcmefaa.F
open Go.RowKit Go.Proofs.YtioooobmfcmefaaW.PrintWords Go.Proofs.YtioooobmfcmefaaW.PrintLast Go.Proofs.YtioooobmfcmefaaW.PrintMore
attribute [local go_sem] max2_int min2_int max_two min_two max_three min_three max_four min_four   -- for this text's walks alone
set_option linter.unusedVariables false
set_option linter.unusedSimpArgs false

/-! ### impl_unit_1: function 86: ours -/
def impl_unit_1.cell : Cell2 := ⟨fun i j => if i = j then some 1 else some 0⟩
set_option maxRecDepth 100000 in
theorem impl_unit_1.cells (w : World) : ∀ (W : World) (i j v : Int), Below w.heap.size w W → impl_unit_1.cell.f i j = some v → Calls Try.prog 86 (#[.int .i64 i, .int .i64 j] ++ #[]) W fun e w' => e = .returned (.int .i64 v) ∧ Below W.heap.size W w' := by
  intro W i j v hB h
  have H : (if i = j then some (1 : Int) else some 0) = some v := h
  clear h hB
  by_cases c : i = j
  · rw [if_pos c] at H
    obtain rfl := Option.some.inj H
    have b : (i == j) = true := beq_iff_eq.mpr c
    clear c H
    go_enter Try.func86, Try.ntmps86
    go_wp2
    go_ret
    exact ⟨rfl, Below.refl _ _⟩
  · rw [if_neg c] at H
    obtain rfl := Option.some.inj H
    have b : (i == j) = false := beq_eq_false_iff_ne.mpr c
    clear c H
    go_enter Try.func86, Try.ntmps86
    go_wp2
    go_ret
    exact ⟨rfl, Below.refl _ _⟩

end Go.Proofs.Ytioooobmfcmefaa.F
