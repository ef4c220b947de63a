/-
  No cell of these rows narrows 'for every input' (looked for: loops, veiled, ifaces, maps, wideKeys, modest, calm, conditions, laid).
  DERIVED. THE GIVEN ROWS OF THIS SEAT. 4 by the template 'for every input the law returns true; each argument reads behind the call as it read before'; 0 by the template 'total and deterministic' (their statements: YtmbbjmkcbpefhaaTotals.lean).
  GIVEN WITH THE SEED: the statements are not yours to turn. If you find one false, say at which input.
  Laid BY PROGRAM, IN A SANDBOX (cutbox-rows.mjs): the forced cells as the released guide's own fill.sh prints them over the translation c566b079895a7c76… (all of the seat's roots in one cut). By AI agents, Wed Nov 11 2026. No macro, syntax, notation, axiom, sorry.
-/
import Derived.Test.YtmbbjmkcbpefhaaChecked
import GoSem.Claim
import GoSem.ClaimJoined
import GoSem.ClaimMapViews
import Derived.JoinedTies
import Derived.KernelRfl
namespace Go.Proofs.Ytmbbjmkcbpefhaa
/- THE CELL 'sum', in the pinned program and in every row, IS THE sha256 OF THE DUMP (.gsa) THAT YtmbbjmkcbpefhaaProg.lean LOADS. Nothing in Lean hashes anything: it is a label: what it is worth is what the hold of that sum in a sandbox is worth. -/
noncomputable def Try.pinned : Pinned := { name := "ytmbbjmkcbpefhaa", sum := "c566b079895a7c760688872ff5a9beca08daf737eaa87af30ca24fcd2500748c", checked := Try.checked }
namespace Rows
def none {H : Type} : Left H := { results := [], args := [] }

/-- 'laws.FnExactSolve': WHATEVER THE INPUT: true; the input reads as it did. -/
def fnExactSolveSpec : ChangeSpec := { name := "fnExactSolve", fn := fun _ => fun
  | [d1, d2] => { results := [.lit (.bool true)], args := [d1, d2] }
  | _ => none }
def fnExactSolveRow : OpenClaim := { program := "ytmbbjmkcbpefhaa", sum := "c566b079895a7c760688872ff5a9beca08daf737eaa87af30ca24fcd2500748c", func := "loop.example/g01005/laws.FnExactSolve", spec := "fnExactSolve", unfollowed := true, recurses := true, apart := false }
def FnExactSolveSaid : Prop := fnExactSolveRow.holds Try.pinned (OpenSpec.ofChange fnExactSolveSpec)

/-- ITS FALSE NEIGHBOUR: 'it returns false'. Refute it at one input. -/
def fnExactSolveWrong : ChangeSpec := { name := "fnExactSolve", fn := fun _ => fun
  | [d1, d2] => { results := [.lit (.bool false)], args := [d1, d2] }
  | _ => none }
def FnExactSolveWrongFalsely : Prop := fnExactSolveRow.holds Try.pinned (OpenSpec.ofChange fnExactSolveWrong)

/-- 'laws.FnExactContainsVector': WHATEVER THE INPUT: true; the input reads as it did. -/
def fnExactContainsVectorSpec : ChangeSpec := { name := "fnExactContainsVector", fn := fun _ => fun
  | [d1, d2] => { results := [.lit (.bool true)], args := [d1, d2] }
  | _ => none }
def fnExactContainsVectorRow : OpenClaim := { program := "ytmbbjmkcbpefhaa", sum := "c566b079895a7c760688872ff5a9beca08daf737eaa87af30ca24fcd2500748c", func := "loop.example/g01005/laws.FnExactContainsVector", spec := "fnExactContainsVector", unfollowed := true, recurses := true, apart := false }
def FnExactContainsVectorSaid : Prop := fnExactContainsVectorRow.holds Try.pinned (OpenSpec.ofChange fnExactContainsVectorSpec)

/-- ITS FALSE NEIGHBOUR: 'it returns false'. Refute it at one input. -/
def fnExactContainsVectorWrong : ChangeSpec := { name := "fnExactContainsVector", fn := fun _ => fun
  | [d1, d2] => { results := [.lit (.bool false)], args := [d1, d2] }
  | _ => none }
def FnExactContainsVectorWrongFalsely : Prop := fnExactContainsVectorRow.holds Try.pinned (OpenSpec.ofChange fnExactContainsVectorWrong)

/-- 'laws.FnExactCertificate': WHATEVER THE INPUT: true; the input reads as it did. -/
def fnExactCertificateSpec : ChangeSpec := { name := "fnExactCertificate", fn := fun _ => fun
  | [d1, d2] => { results := [.lit (.bool true)], args := [d1, d2] }
  | _ => none }
def fnExactCertificateRow : OpenClaim := { program := "ytmbbjmkcbpefhaa", sum := "c566b079895a7c760688872ff5a9beca08daf737eaa87af30ca24fcd2500748c", func := "loop.example/g01005/laws.FnExactCertificate", spec := "fnExactCertificate", unfollowed := true, recurses := true, apart := false }
def FnExactCertificateSaid : Prop := fnExactCertificateRow.holds Try.pinned (OpenSpec.ofChange fnExactCertificateSpec)

/-- ITS FALSE NEIGHBOUR: 'it returns false'. Refute it at one input. -/
def fnExactCertificateWrong : ChangeSpec := { name := "fnExactCertificate", fn := fun _ => fun
  | [d1, d2] => { results := [.lit (.bool false)], args := [d1, d2] }
  | _ => none }
def FnExactCertificateWrongFalsely : Prop := fnExactCertificateRow.holds Try.pinned (OpenSpec.ofChange fnExactCertificateWrong)

/-- 'laws.FnSolve': WHATEVER THE INPUT: true; the input reads as it did. -/
def fnSolveSpec : ChangeSpec := { name := "fnSolve", fn := fun _ => fun
  | [d] => { results := [.lit (.bool true)], args := [d] }
  | _ => none }
def fnSolveRow : OpenClaim := { program := "ytmbbjmkcbpefhaa", sum := "c566b079895a7c760688872ff5a9beca08daf737eaa87af30ca24fcd2500748c", func := "loop.example/g01005/laws.FnSolve", spec := "fnSolve", unfollowed := true, recurses := true, apart := false }
def FnSolveSaid : Prop := fnSolveRow.holds Try.pinned (OpenSpec.ofChange fnSolveSpec)

/-- ITS FALSE NEIGHBOUR: 'it returns false'. Refute it at one input. -/
def fnSolveWrong : ChangeSpec := { name := "fnSolve", fn := fun _ => fun
  | [d] => { results := [.lit (.bool false)], args := [d] }
  | _ => none }
def FnSolveWrongFalsely : Prop := fnSolveRow.holds Try.pinned (OpenSpec.ofChange fnSolveWrong)

/- THE SECOND FORM. 'bulk': how many values and letters a reading holds, each counted each time it is reached (what is shared counts as often as it is met; a slice's spare places count too). A statement '..UptoSaid' is the law's where the arguments, and the package variables that the reading takes, are together of bulk at most 1048576: NARROWER than '..Said'. Prove '..Said' where nothing that the law and all that it calls make is longer than what came in: it says more and counts as full. Else prove '..UptoSaid'. A law counts once. -/
mutual
def uptoBulk {H : Type} : DataW H → Nat
  | .lit (.string bytes) => bytes.length + 1
  | .lit _ => 1
  | .nil => 1
  | .ptr d => uptoBulk d + 1
  | .slice elems spare => uptoBulkAll elems + uptoBulkAll spare + 1
  | .agg parts => uptoBulkAll parts + 1
  | .iface _ d => uptoBulk d + 1
  | .map entries => uptoBulkEntries entries + 1
  | .held _ => 1
def uptoBulkAll {H : Type} : List (DataW H) → Nat
  | [] => 0
  | d :: r => uptoBulk d + uptoBulkAll r
def uptoBulkEntries {H : Type} : List (Lit × DataW H) → Nat
  | [] => 0
  | x :: r => uptoBulkEntry x + uptoBulkEntries r
def uptoBulkEntry {H : Type} : Lit × DataW H → Nat
  | (.string bytes, d) => bytes.length + uptoBulk d + 1
  | (_, d) => uptoBulk d + 1
 end
def uptoSmall : (H : Type) → List (DataW H) → Bool := fun _ ds => decide (uptoBulkAll ds ≤ 1048576)
def OpenSpec.upto (s : _root_.Go.ChangeSpec) : _root_.Go.OpenSpec := { _root_.Go.OpenSpec.ofChange s with cond := some uptoSmall }

/-- 'laws.FnExactSolve', WHERE WHAT IT READS IS OF BULK AT MOST 1048576: true; the input reads as it did. -/
def fnExactSolveUptoRow : OpenClaim := { program := "ytmbbjmkcbpefhaa", sum := "c566b079895a7c760688872ff5a9beca08daf737eaa87af30ca24fcd2500748c", func := "loop.example/g01005/laws.FnExactSolve", spec := "fnExactSolve", unfollowed := true, recurses := true, apart := false, narrowed := true }
def FnExactSolveUptoSaid : Prop := fnExactSolveUptoRow.holds Try.pinned (OpenSpec.upto fnExactSolveSpec)

/-- 'laws.FnExactContainsVector', WHERE WHAT IT READS IS OF BULK AT MOST 1048576: true; the input reads as it did. -/
def fnExactContainsVectorUptoRow : OpenClaim := { program := "ytmbbjmkcbpefhaa", sum := "c566b079895a7c760688872ff5a9beca08daf737eaa87af30ca24fcd2500748c", func := "loop.example/g01005/laws.FnExactContainsVector", spec := "fnExactContainsVector", unfollowed := true, recurses := true, apart := false, narrowed := true }
def FnExactContainsVectorUptoSaid : Prop := fnExactContainsVectorUptoRow.holds Try.pinned (OpenSpec.upto fnExactContainsVectorSpec)

/-- 'laws.FnExactCertificate', WHERE WHAT IT READS IS OF BULK AT MOST 1048576: true; the input reads as it did. -/
def fnExactCertificateUptoRow : OpenClaim := { program := "ytmbbjmkcbpefhaa", sum := "c566b079895a7c760688872ff5a9beca08daf737eaa87af30ca24fcd2500748c", func := "loop.example/g01005/laws.FnExactCertificate", spec := "fnExactCertificate", unfollowed := true, recurses := true, apart := false, narrowed := true }
def FnExactCertificateUptoSaid : Prop := fnExactCertificateUptoRow.holds Try.pinned (OpenSpec.upto fnExactCertificateSpec)

/-- 'laws.FnSolve', WHERE WHAT IT READS IS OF BULK AT MOST 1048576: true; the input reads as it did. -/
def fnSolveUptoRow : OpenClaim := { program := "ytmbbjmkcbpefhaa", sum := "c566b079895a7c760688872ff5a9beca08daf737eaa87af30ca24fcd2500748c", func := "loop.example/g01005/laws.FnSolve", spec := "fnSolve", unfollowed := true, recurses := true, apart := false, narrowed := true }
def FnSolveUptoSaid : Prop := fnSolveUptoRow.holds Try.pinned (OpenSpec.upto fnSolveSpec)

end Rows
end Go.Proofs.Ytmbbjmkcbpefhaa
