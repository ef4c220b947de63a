-- PRINTED BY print.sh 35421559b90ae4d0a3588c463048766b98c2df88dd9212a6774a882060cdf62d: not written by this session
import Derived.Test.YtnafpdfdjbembaaProg
import Derived.Below
import Derived.Deep.Draws
import Derived.Deep.AppendLies
import Derived.Maps.AppendAt
import Derived.OwnWalk
import Derived.Laws.BytesArg
import Derived.Laws.MakeOwn
import Derived.Laws.OwnMore
import Derived.Deep.OwnRows
import Derived.Tactics
import Derived.Lib.ConvBytes
import Derived.Laws.Slices
import Derived.WalkKit
import Derived.KernelRfl
import Derived.RowKit3
import Derived.Deep.LoopGhost
import Derived.Deep.QuietTactic
import Derived.BigQuiet
import Derived.WideLaws
import Derived.Deep.DeepCutAuto
import Derived.Deep.CutBlock
import Derived.Deep.RegionHeld3
import Derived.Laws.Rows
import Derived.Lib.AppendStr
import Derived.ArgAppend
import Derived.Laws.IdiomCopy
import Derived.OrdersHeld
import Derived.Laws.BitsLemmas
import Derived.RowKit
import Derived.Test.YtnafpdfdjbembaaWWords
import Derived.Test.YtnafpdfdjbembaaWLast
import Derived.Test.YtnafpdfdjbembaaWTab
import Derived.Test.YtnafpdfdjbembaaWFour
import Derived.Test.YtnafpdfdjbembaaWQPut
import Derived.Test.YtnafpdfdjbembaaWApart
import Derived.Test.YtnafpdfdjbembaaWArr
import Derived.Test.YtnafpdfdjbembaaWZeros
import Derived.Test.YtnafpdfdjbembaaWFoot
import Derived.Test.YtnafpdfdjbembaaWKept
import Derived.Test.YtnafpdfdjbembaaWShare
import Derived.Test.YtnafpdfdjbembaaWN
import Derived.Test.YtnafpdfdjbembaaWFootNe
import Derived.Test.YtnafpdfdjbembaaWAt
import Derived.Test.YtnafpdfdjbembaaWEqStruct
import Derived.Test.YtnafpdfdjbembaaWRepsOne
import Derived.Test.YtnafpdfdjbembaaWInv
import Derived.Test.YtnafpdfdjbembaaWInvWords
import Derived.Test.YtnafpdfdjbembaaWGuard
import Derived.Test.YtnafpdfdjbembaaWNEv
import Derived.Test.YtnafpdfdjbembaaWMore
namespace Go.Proofs.Ytnafpdfdjbembaa.PFnExactBlend
open Go.RowKit Go.Proofs.YtnafpdfdjbembaaW.PrintWords Go.Proofs.YtnafpdfdjbembaaW.PrintLast Go.Proofs.YtnafpdfdjbembaaW.PrintMore
attribute [local go_sem] max2_int min2_int max_two min_two max_three min_three max_four min_four   -- for this text's walks alone
set_option linter.unusedVariables false
set_option linter.unusedSimpArgs false



def errW : Option Int → Value
  | none => .nilIface
  | some c => .iface 0 (.int .i64 c)
theorem errW_none : errW none = .nilIface := rfl
theorem errW_some (c : Int) : errW (some c) = .iface 0 (.int .i64 c) := rfl

theorem info2 : (Try.prog.info? 2).map (fun i => (i.zero, i.size, i.bytes)) = some (some (.int .i64 0), 1, 8) := by kernel_rfl
-- the values' own types

end Go.Proofs.Ytnafpdfdjbembaa.PFnExactBlend
