/- The constants of the program have the values that the law compares them with, so the law returns true. -/
import Derived.Test.YtnafpdfdjbembaaPFnExactConstantsx1
import Derived.KernelRfl
set_option linter.unusedVariables false
set_option linter.unusedSimpArgs false
namespace Go.Proofs.Ytnafpdfdjbembaa.Pure
namespace Constants
open Go.RowKit Go.Proofs.Ytnafpdfdjbembaa.PFnExactConstants Go.Proofs.YtnafpdfdjbembaaW.PrintWords Go.Proofs.YtnafpdfdjbembaaW.PrintLast

theorem FnExactConstants : laws_FnExactConstants.Pure := rfl

end Constants
theorem FnExactConstants : PFnExactConstants.laws_FnExactConstants.Pure := Constants.FnExactConstants
end Go.Proofs.Ytnafpdfdjbembaa.Pure
