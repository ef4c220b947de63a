/- For every code the two functions give the same name: the table's entry from 0 to 11, the empty text elsewhere. -/
import Derived.Test.YtnafpdfdjbembaaPFnExactCodeNamex1
import Derived.KernelRfl
set_option linter.unusedVariables false
set_option linter.unusedSimpArgs false
namespace Go.Proofs.Ytnafpdfdjbembaa.Pure
namespace CodeName
open Go.RowKit Go.Proofs.Ytnafpdfdjbembaa.PFnExactCodeName Go.Proofs.YtnafpdfdjbembaaW.PrintWords Go.Proofs.YtnafpdfdjbembaaW.PrintLast

theorem FnExactCodeName : laws_FnExactCodeName.Pure := by
  intro a _
  by_cases h : 0 ≤ a ∧ a < 12
  · obtain ⟨n, rfl⟩ := Int.eq_ofNat_of_zero_le h.1
    have key : ∀ n, n < 12 → laws_FnExactCodeName.f (n : Nat) = some true := by decide +kernel
    exact key n (by omega)
  · unfold laws_FnExactCodeName.f spec_CodeName.f impl_CodeName.f spec_l00In.f
    have e : wrap64 11 = 11 := by unfold wrap64; omega
    by_cases h0 : a < 0
    · have : ¬ a ≥ 0 := by omega
      simp [h0, this]
    · have h1 : a ≥ 0 := by omega
      have h2 : ¬ a ≤ 11 := by omega
      have h3 : a ≥ 12 := by omega
      simp [h0, h1, h2, h3, e]

end CodeName
theorem FnExactCodeName : PFnExactCodeName.laws_FnExactCodeName.Pure := CodeName.FnExactCodeName
end Go.Proofs.Ytnafpdfdjbembaa.Pure
