/-
  No cell of these rows narrows 'for every input' (looked for: loops, veiled, ifaces, maps, wideKeys, modest, calm, conditions, laid).
  DERIVED. THE GIVEN ROWS OF THIS SEAT. 4 by the template 'for every input the law returns true; each argument reads behind the call as it read before'; 0 by the template 'total and deterministic' (their statements: YtoibkfdmcajieaaTotals.lean).
  GIVEN WITH THE SEED: the statements are not yours to turn. If you find one false, say at which input.
  Laid BY PROGRAM, IN A SANDBOX (cutbox-rows.mjs): the forced cells as the released guide's own fill.sh prints them over the translation 73eb635b03b6c214… (all of the seat's roots in one cut). By AI agents, Wed Nov 11 2026. No macro, syntax, notation, axiom, sorry.
-/
import Derived.Test.YtoibkfdmcajieaaChecked
import GoSem.Claim
import GoSem.ClaimJoined
import GoSem.ClaimMapViews
import Derived.JoinedTies
import Derived.KernelRfl
namespace Go.Proofs.Ytoibkfdmcajieaa
/- THE CELL 'sum', in the pinned program and in every row, IS THE sha256 OF THE DUMP (.gsa) THAT YtoibkfdmcajieaaProg.lean LOADS. Nothing in Lean hashes anything: it is a label: what it is worth is what the hold of that sum in a sandbox is worth. -/
noncomputable def Try.pinned : Pinned := { name := "ytoibkfdmcajieaa", sum := "73eb635b03b6c214fe1b4791969f88b8e0b7f58cb63d9253a01632510248fef7", checked := Try.checked }
namespace Rows
def none {H : Type} : Left H := { results := [], args := [] }

/-- 'laws.FnExactValidSpace': WHATEVER THE INPUT: true; the input reads as it did. -/
def fnExactValidSpaceSpec : ChangeSpec := { name := "fnExactValidSpace", fn := fun _ => fun
  | [d] => { results := [.lit (.bool true)], args := [d] }
  | _ => none }
def fnExactValidSpaceRow : OpenClaim := { program := "ytoibkfdmcajieaa", sum := "73eb635b03b6c214fe1b4791969f88b8e0b7f58cb63d9253a01632510248fef7", func := "loop.example/g01005/laws.FnExactValidSpace", spec := "fnExactValidSpace", unfollowed := true, recurses := true, apart := false }
def FnExactValidSpaceSaid : Prop := fnExactValidSpaceRow.holds Try.pinned (OpenSpec.ofChange fnExactValidSpaceSpec)

/-- ITS FALSE NEIGHBOUR: 'it returns false'. Refute it at one input. -/
def fnExactValidSpaceWrong : ChangeSpec := { name := "fnExactValidSpace", fn := fun _ => fun
  | [d] => { results := [.lit (.bool false)], args := [d] }
  | _ => none }
def FnExactValidSpaceWrongFalsely : Prop := fnExactValidSpaceRow.holds Try.pinned (OpenSpec.ofChange fnExactValidSpaceWrong)

/-- 'laws.FnExactSpaceOf': WHATEVER THE INPUT: true; the input reads as it did. -/
def fnExactSpaceOfSpec : ChangeSpec := { name := "fnExactSpaceOf", fn := fun _ => fun
  | [d1, d2, d3] => { results := [.lit (.bool true)], args := [d1, d2, d3] }
  | _ => none }
def fnExactSpaceOfRow : OpenClaim := { program := "ytoibkfdmcajieaa", sum := "73eb635b03b6c214fe1b4791969f88b8e0b7f58cb63d9253a01632510248fef7", func := "loop.example/g01005/laws.FnExactSpaceOf", spec := "fnExactSpaceOf", unfollowed := true, recurses := true, apart := false }
def FnExactSpaceOfSaid : Prop := fnExactSpaceOfRow.holds Try.pinned (OpenSpec.ofChange fnExactSpaceOfSpec)

/-- ITS FALSE NEIGHBOUR: 'it returns false'. Refute it at one input. -/
def fnExactSpaceOfWrong : ChangeSpec := { name := "fnExactSpaceOf", fn := fun _ => fun
  | [d1, d2, d3] => { results := [.lit (.bool false)], args := [d1, d2, d3] }
  | _ => none }
def FnExactSpaceOfWrongFalsely : Prop := fnExactSpaceOfRow.holds Try.pinned (OpenSpec.ofChange fnExactSpaceOfWrong)

/-- 'laws.FnExactColumnSpace': WHATEVER THE INPUT: true; the input reads as it did. -/
def fnExactColumnSpaceSpec : ChangeSpec := { name := "fnExactColumnSpace", fn := fun _ => fun
  | [d] => { results := [.lit (.bool true)], args := [d] }
  | _ => none }
def fnExactColumnSpaceRow : OpenClaim := { program := "ytoibkfdmcajieaa", sum := "73eb635b03b6c214fe1b4791969f88b8e0b7f58cb63d9253a01632510248fef7", func := "loop.example/g01005/laws.FnExactColumnSpace", spec := "fnExactColumnSpace", unfollowed := true, recurses := true, apart := false }
def FnExactColumnSpaceSaid : Prop := fnExactColumnSpaceRow.holds Try.pinned (OpenSpec.ofChange fnExactColumnSpaceSpec)

/-- ITS FALSE NEIGHBOUR: 'it returns false'. Refute it at one input. -/
def fnExactColumnSpaceWrong : ChangeSpec := { name := "fnExactColumnSpace", fn := fun _ => fun
  | [d] => { results := [.lit (.bool false)], args := [d] }
  | _ => none }
def FnExactColumnSpaceWrongFalsely : Prop := fnExactColumnSpaceRow.holds Try.pinned (OpenSpec.ofChange fnExactColumnSpaceWrong)

/-- 'laws.FnExactKernelOf': WHATEVER THE INPUT: true; the input reads as it did. -/
def fnExactKernelOfSpec : ChangeSpec := { name := "fnExactKernelOf", fn := fun _ => fun
  | [d] => { results := [.lit (.bool true)], args := [d] }
  | _ => none }
def fnExactKernelOfRow : OpenClaim := { program := "ytoibkfdmcajieaa", sum := "73eb635b03b6c214fe1b4791969f88b8e0b7f58cb63d9253a01632510248fef7", func := "loop.example/g01005/laws.FnExactKernelOf", spec := "fnExactKernelOf", unfollowed := true, recurses := true, apart := false }
def FnExactKernelOfSaid : Prop := fnExactKernelOfRow.holds Try.pinned (OpenSpec.ofChange fnExactKernelOfSpec)

/-- ITS FALSE NEIGHBOUR: 'it returns false'. Refute it at one input. -/
def fnExactKernelOfWrong : ChangeSpec := { name := "fnExactKernelOf", fn := fun _ => fun
  | [d] => { results := [.lit (.bool false)], args := [d] }
  | _ => none }
def FnExactKernelOfWrongFalsely : Prop := fnExactKernelOfRow.holds Try.pinned (OpenSpec.ofChange fnExactKernelOfWrong)

/- THE SECOND FORM. 'bulk': how many values and letters a reading holds, each counted each time it is reached (what is shared counts as often as it is met; a slice's spare places count too). A statement '..UptoSaid' is the law's where the arguments, and the package variables that the reading takes, are together of bulk at most 1048576: NARROWER than '..Said'. Prove '..Said' where nothing that the law and all that it calls make is longer than what came in: it says more and counts as full. Else prove '..UptoSaid'. A law counts once. -/
mutual
def uptoBulk {H : Type} : DataW H → Nat
  | .lit (.string bytes) => bytes.length + 1
  | .lit _ => 1
  | .nil => 1
  | .ptr d => uptoBulk d + 1
  | .slice elems spare => uptoBulkAll elems + uptoBulkAll spare + 1
  | .agg parts => uptoBulkAll parts + 1
  | .iface _ d => uptoBulk d + 1
  | .map entries => uptoBulkEntries entries + 1
  | .held _ => 1
def uptoBulkAll {H : Type} : List (DataW H) → Nat
  | [] => 0
  | d :: r => uptoBulk d + uptoBulkAll r
def uptoBulkEntries {H : Type} : List (Lit × DataW H) → Nat
  | [] => 0
  | x :: r => uptoBulkEntry x + uptoBulkEntries r
def uptoBulkEntry {H : Type} : Lit × DataW H → Nat
  | (.string bytes, d) => bytes.length + uptoBulk d + 1
  | (_, d) => uptoBulk d + 1
 end
def uptoSmall : (H : Type) → List (DataW H) → Bool := fun _ ds => decide (uptoBulkAll ds ≤ 1048576)
def OpenSpec.upto (s : _root_.Go.ChangeSpec) : _root_.Go.OpenSpec := { _root_.Go.OpenSpec.ofChange s with cond := some uptoSmall }

/-- 'laws.FnExactValidSpace', WHERE WHAT IT READS IS OF BULK AT MOST 1048576: true; the input reads as it did. -/
def fnExactValidSpaceUptoRow : OpenClaim := { program := "ytoibkfdmcajieaa", sum := "73eb635b03b6c214fe1b4791969f88b8e0b7f58cb63d9253a01632510248fef7", func := "loop.example/g01005/laws.FnExactValidSpace", spec := "fnExactValidSpace", unfollowed := true, recurses := true, apart := false, narrowed := true }
def FnExactValidSpaceUptoSaid : Prop := fnExactValidSpaceUptoRow.holds Try.pinned (OpenSpec.upto fnExactValidSpaceSpec)

/-- 'laws.FnExactSpaceOf', WHERE WHAT IT READS IS OF BULK AT MOST 1048576: true; the input reads as it did. -/
def fnExactSpaceOfUptoRow : OpenClaim := { program := "ytoibkfdmcajieaa", sum := "73eb635b03b6c214fe1b4791969f88b8e0b7f58cb63d9253a01632510248fef7", func := "loop.example/g01005/laws.FnExactSpaceOf", spec := "fnExactSpaceOf", unfollowed := true, recurses := true, apart := false, narrowed := true }
def FnExactSpaceOfUptoSaid : Prop := fnExactSpaceOfUptoRow.holds Try.pinned (OpenSpec.upto fnExactSpaceOfSpec)

/-- 'laws.FnExactColumnSpace', WHERE WHAT IT READS IS OF BULK AT MOST 1048576: true; the input reads as it did. -/
def fnExactColumnSpaceUptoRow : OpenClaim := { program := "ytoibkfdmcajieaa", sum := "73eb635b03b6c214fe1b4791969f88b8e0b7f58cb63d9253a01632510248fef7", func := "loop.example/g01005/laws.FnExactColumnSpace", spec := "fnExactColumnSpace", unfollowed := true, recurses := true, apart := false, narrowed := true }
def FnExactColumnSpaceUptoSaid : Prop := fnExactColumnSpaceUptoRow.holds Try.pinned (OpenSpec.upto fnExactColumnSpaceSpec)

/-- 'laws.FnExactKernelOf', WHERE WHAT IT READS IS OF BULK AT MOST 1048576: true; the input reads as it did. -/
def fnExactKernelOfUptoRow : OpenClaim := { program := "ytoibkfdmcajieaa", sum := "73eb635b03b6c214fe1b4791969f88b8e0b7f58cb63d9253a01632510248fef7", func := "loop.example/g01005/laws.FnExactKernelOf", spec := "fnExactKernelOf", unfollowed := true, recurses := true, apart := false, narrowed := true }
def FnExactKernelOfUptoSaid : Prop := fnExactKernelOfUptoRow.holds Try.pinned (OpenSpec.upto fnExactKernelOfSpec)

end Rows
end Go.Proofs.Ytoibkfdmcajieaa
