-- Written by gprint.py, a program of this session's that drives the kit's print, for this claim. Not trusted: checked as any text.
import Derived.Test.YtioooobmfcmefaaFx0
import Derived.Test.YtioooobmfcmefaaFx55
namespace Go.Proofs.Ytioooobmfcmefaa.F
open Go.RowKit Go.Proofs.YtioooobmfcmefaaW.PrintWords Go.Proofs.YtioooobmfcmefaaW.PrintLast Go.Proofs.YtioooobmfcmefaaW.PrintMore
attribute [local go_sem] max2_int min2_int max_two min_two max_three min_three max_four min_four   -- for this text's walks alone
set_option linter.unusedVariables false
set_option linter.unusedSimpArgs false

/-! ### impl_zero_1: function 85: ours -/
def impl_zero_1.cell : Cell2 := ⟨fun _ _ => some 0⟩
set_option maxRecDepth 100000 in
theorem impl_zero_1.cells (w : World) : ∀ (W : World) (i j v : Int), Below w.heap.size w W → impl_zero_1.cell.f i j = some v → Calls Try.prog 85 (#[.int .i64 i, .int .i64 j] ++ #[]) W fun e w' => e = .returned (.int .i64 v) ∧ Below W.heap.size W w' := by
  intro W i j v hB h
  obtain rfl : (0 : Int) = v := Option.some.inj h
  clear h hB
  go_enter Try.func85, Try.ntmps85
  go_wp2
  go_ret
  exact ⟨rfl, Below.refl _ _⟩

end Go.Proofs.Ytioooobmfcmefaa.F
