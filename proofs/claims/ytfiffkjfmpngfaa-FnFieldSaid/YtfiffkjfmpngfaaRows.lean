/-
  No cell of these rows narrows 'for every input' (looked for: loops, veiled, ifaces, maps, wideKeys, modest, calm, conditions, laid).
  DERIVED. THE GIVEN ROWS OF THIS SEAT. 12 by the template 'for every input the law returns true; each argument reads behind the call as it read before'; 0 by the template 'total and deterministic' (their statements: YtfiffkjfmpngfaaTotals.lean).
  GIVEN WITH THE SEED: the statements are not yours to turn. If you find one false, say at which input.
  Laid BY PROGRAM, IN A SANDBOX (cutbox-rows.mjs): the forced cells as the released guide's own fill.sh prints them over the translation bc6f3ee8a63b265e… (all of the seat's roots in one cut). By AI agents, Wed Nov 11 2026. No macro, syntax, notation, axiom, sorry.
-/
import Derived.Test.YtfiffkjfmpngfaaChecked
import GoSem.Claim
import GoSem.ClaimJoined
import GoSem.ClaimMapViews
import Derived.JoinedTies
import Derived.KernelRfl
namespace Go.Proofs.Ytfiffkjfmpngfaa
/- THE CELL 'sum', in the pinned program and in every row, IS THE sha256 OF THE DUMP (.gsa) THAT YtfiffkjfmpngfaaProg.lean LOADS. Nothing in Lean hashes anything: it is a label: what it is worth is what the hold of that sum in a sandbox is worth. -/
noncomputable def Try.pinned : Pinned := { name := "ytfiffkjfmpngfaa", sum := "bc6f3ee8a63b265e7797e640fab475f3938d91b91adf5ba4305e88d1bf873506", checked := Try.checked }
namespace Rows
def none {H : Type} : Left H := { results := [], args := [] }

/-- 'laws.FnExactSquareRootOf': WHATEVER THE INPUT: true; the input reads as it did. -/
def fnExactSquareRootOfSpec : ChangeSpec := { name := "fnExactSquareRootOf", fn := fun _ => fun
  | [d1, d2] => { results := [.lit (.bool true)], args := [d1, d2] }
  | _ => none }
def fnExactSquareRootOfRow : OpenClaim := { program := "ytfiffkjfmpngfaa", sum := "bc6f3ee8a63b265e7797e640fab475f3938d91b91adf5ba4305e88d1bf873506", func := "loop.example/g01005/laws.FnExactSquareRootOf", spec := "fnExactSquareRootOf", unfollowed := true, recurses := true, apart := false }
def FnExactSquareRootOfSaid : Prop := fnExactSquareRootOfRow.holds Try.pinned (OpenSpec.ofChange fnExactSquareRootOfSpec)

/-- ITS FALSE NEIGHBOUR: 'it returns false'. Refute it at one input. -/
def fnExactSquareRootOfWrong : ChangeSpec := { name := "fnExactSquareRootOf", fn := fun _ => fun
  | [d1, d2] => { results := [.lit (.bool false)], args := [d1, d2] }
  | _ => none }
def FnExactSquareRootOfWrongFalsely : Prop := fnExactSquareRootOfRow.holds Try.pinned (OpenSpec.ofChange fnExactSquareRootOfWrong)

/-- 'laws.FnExactLegendreOf': WHATEVER THE INPUT: true; the input reads as it did. -/
def fnExactLegendreOfSpec : ChangeSpec := { name := "fnExactLegendreOf", fn := fun _ => fun
  | [d1, d2] => { results := [.lit (.bool true)], args := [d1, d2] }
  | _ => none }
def fnExactLegendreOfRow : OpenClaim := { program := "ytfiffkjfmpngfaa", sum := "bc6f3ee8a63b265e7797e640fab475f3938d91b91adf5ba4305e88d1bf873506", func := "loop.example/g01005/laws.FnExactLegendreOf", spec := "fnExactLegendreOf", unfollowed := true, recurses := true, apart := false }
def FnExactLegendreOfSaid : Prop := fnExactLegendreOfRow.holds Try.pinned (OpenSpec.ofChange fnExactLegendreOfSpec)

/-- ITS FALSE NEIGHBOUR: 'it returns false'. Refute it at one input. -/
def fnExactLegendreOfWrong : ChangeSpec := { name := "fnExactLegendreOf", fn := fun _ => fun
  | [d1, d2] => { results := [.lit (.bool false)], args := [d1, d2] }
  | _ => none }
def FnExactLegendreOfWrongFalsely : Prop := fnExactLegendreOfRow.holds Try.pinned (OpenSpec.ofChange fnExactLegendreOfWrong)

/-- 'laws.FnExactInverseOf': WHATEVER THE INPUT: true; the input reads as it did. -/
def fnExactInverseOfSpec : ChangeSpec := { name := "fnExactInverseOf", fn := fun _ => fun
  | [d1, d2] => { results := [.lit (.bool true)], args := [d1, d2] }
  | _ => none }
def fnExactInverseOfRow : OpenClaim := { program := "ytfiffkjfmpngfaa", sum := "bc6f3ee8a63b265e7797e640fab475f3938d91b91adf5ba4305e88d1bf873506", func := "loop.example/g01005/laws.FnExactInverseOf", spec := "fnExactInverseOf", unfollowed := true, recurses := true, apart := false }
def FnExactInverseOfSaid : Prop := fnExactInverseOfRow.holds Try.pinned (OpenSpec.ofChange fnExactInverseOfSpec)

/-- ITS FALSE NEIGHBOUR: 'it returns false'. Refute it at one input. -/
def fnExactInverseOfWrong : ChangeSpec := { name := "fnExactInverseOf", fn := fun _ => fun
  | [d1, d2] => { results := [.lit (.bool false)], args := [d1, d2] }
  | _ => none }
def FnExactInverseOfWrongFalsely : Prop := fnExactInverseOfRow.holds Try.pinned (OpenSpec.ofChange fnExactInverseOfWrong)

/-- 'laws.FnExactPowerOf': WHATEVER THE INPUT: true; the input reads as it did. -/
def fnExactPowerOfSpec : ChangeSpec := { name := "fnExactPowerOf", fn := fun _ => fun
  | [d1, d2, d3] => { results := [.lit (.bool true)], args := [d1, d2, d3] }
  | _ => none }
def fnExactPowerOfRow : OpenClaim := { program := "ytfiffkjfmpngfaa", sum := "bc6f3ee8a63b265e7797e640fab475f3938d91b91adf5ba4305e88d1bf873506", func := "loop.example/g01005/laws.FnExactPowerOf", spec := "fnExactPowerOf", unfollowed := true, recurses := true, apart := false }
def FnExactPowerOfSaid : Prop := fnExactPowerOfRow.holds Try.pinned (OpenSpec.ofChange fnExactPowerOfSpec)

/-- ITS FALSE NEIGHBOUR: 'it returns false'. Refute it at one input. -/
def fnExactPowerOfWrong : ChangeSpec := { name := "fnExactPowerOf", fn := fun _ => fun
  | [d1, d2, d3] => { results := [.lit (.bool false)], args := [d1, d2, d3] }
  | _ => none }
def FnExactPowerOfWrongFalsely : Prop := fnExactPowerOfRow.holds Try.pinned (OpenSpec.ofChange fnExactPowerOfWrong)

/-- 'laws.FnExactValidVector': WHATEVER THE INPUT: true; the input reads as it did. -/
def fnExactValidVectorSpec : ChangeSpec := { name := "fnExactValidVector", fn := fun _ => fun
  | [d1, d2] => { results := [.lit (.bool true)], args := [d1, d2] }
  | _ => none }
def fnExactValidVectorRow : OpenClaim := { program := "ytfiffkjfmpngfaa", sum := "bc6f3ee8a63b265e7797e640fab475f3938d91b91adf5ba4305e88d1bf873506", func := "loop.example/g01005/laws.FnExactValidVector", spec := "fnExactValidVector", unfollowed := true, recurses := true, apart := false }
def FnExactValidVectorSaid : Prop := fnExactValidVectorRow.holds Try.pinned (OpenSpec.ofChange fnExactValidVectorSpec)

/-- ITS FALSE NEIGHBOUR: 'it returns false'. Refute it at one input. -/
def fnExactValidVectorWrong : ChangeSpec := { name := "fnExactValidVector", fn := fun _ => fun
  | [d1, d2] => { results := [.lit (.bool false)], args := [d1, d2] }
  | _ => none }
def FnExactValidVectorWrongFalsely : Prop := fnExactValidVectorRow.holds Try.pinned (OpenSpec.ofChange fnExactValidVectorWrong)

/-- 'laws.FnExactSameMatrix': WHATEVER THE INPUT: true; the input reads as it did. -/
def fnExactSameMatrixSpec : ChangeSpec := { name := "fnExactSameMatrix", fn := fun _ => fun
  | [d1, d2] => { results := [.lit (.bool true)], args := [d1, d2] }
  | _ => none }
def fnExactSameMatrixRow : OpenClaim := { program := "ytfiffkjfmpngfaa", sum := "bc6f3ee8a63b265e7797e640fab475f3938d91b91adf5ba4305e88d1bf873506", func := "loop.example/g01005/laws.FnExactSameMatrix", spec := "fnExactSameMatrix", apart := false }
def FnExactSameMatrixSaid : Prop := fnExactSameMatrixRow.holds Try.pinned (OpenSpec.ofChange fnExactSameMatrixSpec)

/-- ITS FALSE NEIGHBOUR: 'it returns false'. Refute it at one input. -/
def fnExactSameMatrixWrong : ChangeSpec := { name := "fnExactSameMatrix", fn := fun _ => fun
  | [d1, d2] => { results := [.lit (.bool false)], args := [d1, d2] }
  | _ => none }
def FnExactSameMatrixWrongFalsely : Prop := fnExactSameMatrixRow.holds Try.pinned (OpenSpec.ofChange fnExactSameMatrixWrong)

/-- 'laws.FnExactDotOf': WHATEVER THE INPUT: true; the input reads as it did. -/
def fnExactDotOfSpec : ChangeSpec := { name := "fnExactDotOf", fn := fun _ => fun
  | [d1, d2, d3] => { results := [.lit (.bool true)], args := [d1, d2, d3] }
  | _ => none }
def fnExactDotOfRow : OpenClaim := { program := "ytfiffkjfmpngfaa", sum := "bc6f3ee8a63b265e7797e640fab475f3938d91b91adf5ba4305e88d1bf873506", func := "loop.example/g01005/laws.FnExactDotOf", spec := "fnExactDotOf", unfollowed := true, recurses := true, apart := false }
def FnExactDotOfSaid : Prop := fnExactDotOfRow.holds Try.pinned (OpenSpec.ofChange fnExactDotOfSpec)

/-- ITS FALSE NEIGHBOUR: 'it returns false'. Refute it at one input. -/
def fnExactDotOfWrong : ChangeSpec := { name := "fnExactDotOf", fn := fun _ => fun
  | [d1, d2, d3] => { results := [.lit (.bool false)], args := [d1, d2, d3] }
  | _ => none }
def FnExactDotOfWrongFalsely : Prop := fnExactDotOfRow.holds Try.pinned (OpenSpec.ofChange fnExactDotOfWrong)

/-- 'laws.FnExactScaleVector': WHATEVER THE INPUT: true; the input reads as it did. -/
def fnExactScaleVectorSpec : ChangeSpec := { name := "fnExactScaleVector", fn := fun _ => fun
  | [d1, d2, d3] => { results := [.lit (.bool true)], args := [d1, d2, d3] }
  | _ => none }
def fnExactScaleVectorRow : OpenClaim := { program := "ytfiffkjfmpngfaa", sum := "bc6f3ee8a63b265e7797e640fab475f3938d91b91adf5ba4305e88d1bf873506", func := "loop.example/g01005/laws.FnExactScaleVector", spec := "fnExactScaleVector", unfollowed := true, recurses := true, apart := false }
def FnExactScaleVectorSaid : Prop := fnExactScaleVectorRow.holds Try.pinned (OpenSpec.ofChange fnExactScaleVectorSpec)

/-- ITS FALSE NEIGHBOUR: 'it returns false'. Refute it at one input. -/
def fnExactScaleVectorWrong : ChangeSpec := { name := "fnExactScaleVector", fn := fun _ => fun
  | [d1, d2, d3] => { results := [.lit (.bool false)], args := [d1, d2, d3] }
  | _ => none }
def FnExactScaleVectorWrongFalsely : Prop := fnExactScaleVectorRow.holds Try.pinned (OpenSpec.ofChange fnExactScaleVectorWrong)

/-- 'laws.FnExactAddVectors': WHATEVER THE INPUT: true; the input reads as it did. -/
def fnExactAddVectorsSpec : ChangeSpec := { name := "fnExactAddVectors", fn := fun _ => fun
  | [d1, d2, d3] => { results := [.lit (.bool true)], args := [d1, d2, d3] }
  | _ => none }
def fnExactAddVectorsRow : OpenClaim := { program := "ytfiffkjfmpngfaa", sum := "bc6f3ee8a63b265e7797e640fab475f3938d91b91adf5ba4305e88d1bf873506", func := "loop.example/g01005/laws.FnExactAddVectors", spec := "fnExactAddVectors", unfollowed := true, recurses := true, apart := false }
def FnExactAddVectorsSaid : Prop := fnExactAddVectorsRow.holds Try.pinned (OpenSpec.ofChange fnExactAddVectorsSpec)

/-- ITS FALSE NEIGHBOUR: 'it returns false'. Refute it at one input. -/
def fnExactAddVectorsWrong : ChangeSpec := { name := "fnExactAddVectors", fn := fun _ => fun
  | [d1, d2, d3] => { results := [.lit (.bool false)], args := [d1, d2, d3] }
  | _ => none }
def FnExactAddVectorsWrongFalsely : Prop := fnExactAddVectorsRow.holds Try.pinned (OpenSpec.ofChange fnExactAddVectorsWrong)

/-- 'laws.FnField': WHATEVER THE INPUT: true; the input reads as it did. -/
def fnFieldSpec : ChangeSpec := { name := "fnField", fn := fun _ => fun
  | [d1, d2] => { results := [.lit (.bool true)], args := [d1, d2] }
  | _ => none }
def fnFieldRow : OpenClaim := { program := "ytfiffkjfmpngfaa", sum := "bc6f3ee8a63b265e7797e640fab475f3938d91b91adf5ba4305e88d1bf873506", func := "loop.example/g01005/laws.FnField", spec := "fnField", unfollowed := true, recurses := true, apart := false }
def FnFieldSaid : Prop := fnFieldRow.holds Try.pinned (OpenSpec.ofChange fnFieldSpec)

/-- ITS FALSE NEIGHBOUR: 'it returns false'. Refute it at one input. -/
def fnFieldWrong : ChangeSpec := { name := "fnField", fn := fun _ => fun
  | [d1, d2] => { results := [.lit (.bool false)], args := [d1, d2] }
  | _ => none }
def FnFieldWrongFalsely : Prop := fnFieldRow.holds Try.pinned (OpenSpec.ofChange fnFieldWrong)

/-- 'laws.FnRoots': WHATEVER THE INPUT: true; the input reads as it did. -/
def fnRootsSpec : ChangeSpec := { name := "fnRoots", fn := fun _ => fun
  | [d1, d2] => { results := [.lit (.bool true)], args := [d1, d2] }
  | _ => none }
def fnRootsRow : OpenClaim := { program := "ytfiffkjfmpngfaa", sum := "bc6f3ee8a63b265e7797e640fab475f3938d91b91adf5ba4305e88d1bf873506", func := "loop.example/g01005/laws.FnRoots", spec := "fnRoots", unfollowed := true, recurses := true, apart := false }
def FnRootsSaid : Prop := fnRootsRow.holds Try.pinned (OpenSpec.ofChange fnRootsSpec)

/-- ITS FALSE NEIGHBOUR: 'it returns false'. Refute it at one input. -/
def fnRootsWrong : ChangeSpec := { name := "fnRoots", fn := fun _ => fun
  | [d1, d2] => { results := [.lit (.bool false)], args := [d1, d2] }
  | _ => none }
def FnRootsWrongFalsely : Prop := fnRootsRow.holds Try.pinned (OpenSpec.ofChange fnRootsWrong)

/-- 'laws.FnExactSameSpace': WHATEVER THE INPUT: true; the input reads as it did. -/
def fnExactSameSpaceSpec : ChangeSpec := { name := "fnExactSameSpace", fn := fun _ => fun
  | [d1, d2] => { results := [.lit (.bool true)], args := [d1, d2] }
  | _ => none }
def fnExactSameSpaceRow : OpenClaim := { program := "ytfiffkjfmpngfaa", sum := "bc6f3ee8a63b265e7797e640fab475f3938d91b91adf5ba4305e88d1bf873506", func := "loop.example/g01005/laws.FnExactSameSpace", spec := "fnExactSameSpace", unfollowed := true, recurses := true, apart := false }
def FnExactSameSpaceSaid : Prop := fnExactSameSpaceRow.holds Try.pinned (OpenSpec.ofChange fnExactSameSpaceSpec)

/-- ITS FALSE NEIGHBOUR: 'it returns false'. Refute it at one input. -/
def fnExactSameSpaceWrong : ChangeSpec := { name := "fnExactSameSpace", fn := fun _ => fun
  | [d1, d2] => { results := [.lit (.bool false)], args := [d1, d2] }
  | _ => none }
def FnExactSameSpaceWrongFalsely : Prop := fnExactSameSpaceRow.holds Try.pinned (OpenSpec.ofChange fnExactSameSpaceWrong)

/- THE SECOND FORM. 'bulk': how many values and letters a reading holds, each counted each time it is reached (what is shared counts as often as it is met; a slice's spare places count too). A statement '..UptoSaid' is the law's where the arguments, and the package variables that the reading takes, are together of bulk at most 1048576: NARROWER than '..Said'. Prove '..Said' where nothing that the law and all that it calls make is longer than what came in: it says more and counts as full. Else prove '..UptoSaid'. A law counts once. -/
mutual
def uptoBulk {H : Type} : DataW H → Nat
  | .lit (.string bytes) => bytes.length + 1
  | .lit _ => 1
  | .nil => 1
  | .ptr d => uptoBulk d + 1
  | .slice elems spare => uptoBulkAll elems + uptoBulkAll spare + 1
  | .agg parts => uptoBulkAll parts + 1
  | .iface _ d => uptoBulk d + 1
  | .map entries => uptoBulkEntries entries + 1
  | .held _ => 1
def uptoBulkAll {H : Type} : List (DataW H) → Nat
  | [] => 0
  | d :: r => uptoBulk d + uptoBulkAll r
def uptoBulkEntries {H : Type} : List (Lit × DataW H) → Nat
  | [] => 0
  | x :: r => uptoBulkEntry x + uptoBulkEntries r
def uptoBulkEntry {H : Type} : Lit × DataW H → Nat
  | (.string bytes, d) => bytes.length + uptoBulk d + 1
  | (_, d) => uptoBulk d + 1
 end
def uptoSmall : (H : Type) → List (DataW H) → Bool := fun _ ds => decide (uptoBulkAll ds ≤ 1048576)
def OpenSpec.upto (s : _root_.Go.ChangeSpec) : _root_.Go.OpenSpec := { _root_.Go.OpenSpec.ofChange s with cond := some uptoSmall }

/-- 'laws.FnExactSquareRootOf', WHERE WHAT IT READS IS OF BULK AT MOST 1048576: true; the input reads as it did. -/
def fnExactSquareRootOfUptoRow : OpenClaim := { program := "ytfiffkjfmpngfaa", sum := "bc6f3ee8a63b265e7797e640fab475f3938d91b91adf5ba4305e88d1bf873506", func := "loop.example/g01005/laws.FnExactSquareRootOf", spec := "fnExactSquareRootOf", unfollowed := true, recurses := true, apart := false, narrowed := true }
def FnExactSquareRootOfUptoSaid : Prop := fnExactSquareRootOfUptoRow.holds Try.pinned (OpenSpec.upto fnExactSquareRootOfSpec)

/-- 'laws.FnExactLegendreOf', WHERE WHAT IT READS IS OF BULK AT MOST 1048576: true; the input reads as it did. -/
def fnExactLegendreOfUptoRow : OpenClaim := { program := "ytfiffkjfmpngfaa", sum := "bc6f3ee8a63b265e7797e640fab475f3938d91b91adf5ba4305e88d1bf873506", func := "loop.example/g01005/laws.FnExactLegendreOf", spec := "fnExactLegendreOf", unfollowed := true, recurses := true, apart := false, narrowed := true }
def FnExactLegendreOfUptoSaid : Prop := fnExactLegendreOfUptoRow.holds Try.pinned (OpenSpec.upto fnExactLegendreOfSpec)

/-- 'laws.FnExactInverseOf', WHERE WHAT IT READS IS OF BULK AT MOST 1048576: true; the input reads as it did. -/
def fnExactInverseOfUptoRow : OpenClaim := { program := "ytfiffkjfmpngfaa", sum := "bc6f3ee8a63b265e7797e640fab475f3938d91b91adf5ba4305e88d1bf873506", func := "loop.example/g01005/laws.FnExactInverseOf", spec := "fnExactInverseOf", unfollowed := true, recurses := true, apart := false, narrowed := true }
def FnExactInverseOfUptoSaid : Prop := fnExactInverseOfUptoRow.holds Try.pinned (OpenSpec.upto fnExactInverseOfSpec)

/-- 'laws.FnExactPowerOf', WHERE WHAT IT READS IS OF BULK AT MOST 1048576: true; the input reads as it did. -/
def fnExactPowerOfUptoRow : OpenClaim := { program := "ytfiffkjfmpngfaa", sum := "bc6f3ee8a63b265e7797e640fab475f3938d91b91adf5ba4305e88d1bf873506", func := "loop.example/g01005/laws.FnExactPowerOf", spec := "fnExactPowerOf", unfollowed := true, recurses := true, apart := false, narrowed := true }
def FnExactPowerOfUptoSaid : Prop := fnExactPowerOfUptoRow.holds Try.pinned (OpenSpec.upto fnExactPowerOfSpec)

/-- 'laws.FnExactValidVector', WHERE WHAT IT READS IS OF BULK AT MOST 1048576: true; the input reads as it did. -/
def fnExactValidVectorUptoRow : OpenClaim := { program := "ytfiffkjfmpngfaa", sum := "bc6f3ee8a63b265e7797e640fab475f3938d91b91adf5ba4305e88d1bf873506", func := "loop.example/g01005/laws.FnExactValidVector", spec := "fnExactValidVector", unfollowed := true, recurses := true, apart := false, narrowed := true }
def FnExactValidVectorUptoSaid : Prop := fnExactValidVectorUptoRow.holds Try.pinned (OpenSpec.upto fnExactValidVectorSpec)

/-- 'laws.FnExactSameMatrix', WHERE WHAT IT READS IS OF BULK AT MOST 1048576: true; the input reads as it did. -/
def fnExactSameMatrixUptoRow : OpenClaim := { program := "ytfiffkjfmpngfaa", sum := "bc6f3ee8a63b265e7797e640fab475f3938d91b91adf5ba4305e88d1bf873506", func := "loop.example/g01005/laws.FnExactSameMatrix", spec := "fnExactSameMatrix", apart := false, narrowed := true }
def FnExactSameMatrixUptoSaid : Prop := fnExactSameMatrixUptoRow.holds Try.pinned (OpenSpec.upto fnExactSameMatrixSpec)

/-- 'laws.FnExactDotOf', WHERE WHAT IT READS IS OF BULK AT MOST 1048576: true; the input reads as it did. -/
def fnExactDotOfUptoRow : OpenClaim := { program := "ytfiffkjfmpngfaa", sum := "bc6f3ee8a63b265e7797e640fab475f3938d91b91adf5ba4305e88d1bf873506", func := "loop.example/g01005/laws.FnExactDotOf", spec := "fnExactDotOf", unfollowed := true, recurses := true, apart := false, narrowed := true }
def FnExactDotOfUptoSaid : Prop := fnExactDotOfUptoRow.holds Try.pinned (OpenSpec.upto fnExactDotOfSpec)

/-- 'laws.FnExactScaleVector', WHERE WHAT IT READS IS OF BULK AT MOST 1048576: true; the input reads as it did. -/
def fnExactScaleVectorUptoRow : OpenClaim := { program := "ytfiffkjfmpngfaa", sum := "bc6f3ee8a63b265e7797e640fab475f3938d91b91adf5ba4305e88d1bf873506", func := "loop.example/g01005/laws.FnExactScaleVector", spec := "fnExactScaleVector", unfollowed := true, recurses := true, apart := false, narrowed := true }
def FnExactScaleVectorUptoSaid : Prop := fnExactScaleVectorUptoRow.holds Try.pinned (OpenSpec.upto fnExactScaleVectorSpec)

/-- 'laws.FnExactAddVectors', WHERE WHAT IT READS IS OF BULK AT MOST 1048576: true; the input reads as it did. -/
def fnExactAddVectorsUptoRow : OpenClaim := { program := "ytfiffkjfmpngfaa", sum := "bc6f3ee8a63b265e7797e640fab475f3938d91b91adf5ba4305e88d1bf873506", func := "loop.example/g01005/laws.FnExactAddVectors", spec := "fnExactAddVectors", unfollowed := true, recurses := true, apart := false, narrowed := true }
def FnExactAddVectorsUptoSaid : Prop := fnExactAddVectorsUptoRow.holds Try.pinned (OpenSpec.upto fnExactAddVectorsSpec)

/-- 'laws.FnField', WHERE WHAT IT READS IS OF BULK AT MOST 1048576: true; the input reads as it did. -/
def fnFieldUptoRow : OpenClaim := { program := "ytfiffkjfmpngfaa", sum := "bc6f3ee8a63b265e7797e640fab475f3938d91b91adf5ba4305e88d1bf873506", func := "loop.example/g01005/laws.FnField", spec := "fnField", unfollowed := true, recurses := true, apart := false, narrowed := true }
def FnFieldUptoSaid : Prop := fnFieldUptoRow.holds Try.pinned (OpenSpec.upto fnFieldSpec)

/-- 'laws.FnRoots', WHERE WHAT IT READS IS OF BULK AT MOST 1048576: true; the input reads as it did. -/
def fnRootsUptoRow : OpenClaim := { program := "ytfiffkjfmpngfaa", sum := "bc6f3ee8a63b265e7797e640fab475f3938d91b91adf5ba4305e88d1bf873506", func := "loop.example/g01005/laws.FnRoots", spec := "fnRoots", unfollowed := true, recurses := true, apart := false, narrowed := true }
def FnRootsUptoSaid : Prop := fnRootsUptoRow.holds Try.pinned (OpenSpec.upto fnRootsSpec)

/-- 'laws.FnExactSameSpace', WHERE WHAT IT READS IS OF BULK AT MOST 1048576: true; the input reads as it did. -/
def fnExactSameSpaceUptoRow : OpenClaim := { program := "ytfiffkjfmpngfaa", sum := "bc6f3ee8a63b265e7797e640fab475f3938d91b91adf5ba4305e88d1bf873506", func := "loop.example/g01005/laws.FnExactSameSpace", spec := "fnExactSameSpace", unfollowed := true, recurses := true, apart := false, narrowed := true }
def FnExactSameSpaceUptoSaid : Prop := fnExactSameSpaceUptoRow.holds Try.pinned (OpenSpec.upto fnExactSameSpaceSpec)

end Rows
end Go.Proofs.Ytfiffkjfmpngfaa
