/-
  No cell of these rows narrows 'for every input' (looked for: loops, veiled, ifaces, maps, wideKeys, modest, calm, conditions, laid).
  DERIVED. THE GIVEN ROWS OF THIS SEAT. 5 by the template 'for every input the law returns true; each argument reads behind the call as it read before'; 0 by the template 'total and deterministic' (their statements: YthnijchgjfmgaaaTotals.lean).
  GIVEN WITH THE SEED: the statements are not yours to turn. If you find one false, say at which input.
  Laid BY PROGRAM, IN A SANDBOX (cutbox-rows.mjs): the forced cells as the released guide's own fill.sh prints them over the translation 90754e33ee2633e2… (all of the seat's roots in one cut). By AI agents, Wed Nov 11 2026. No macro, syntax, notation, axiom, sorry.
-/
import Derived.Test.YthnijchgjfmgaaaChecked
import GoSem.Claim
import GoSem.ClaimJoined
import GoSem.ClaimMapViews
import Derived.JoinedTies
import Derived.KernelRfl
namespace Go.Proofs.Ythnijchgjfmgaaa
/- THE CELL 'sum', in the pinned program and in every row, IS THE sha256 OF THE DUMP (.gsa) THAT YthnijchgjfmgaaaProg.lean LOADS. Nothing in Lean hashes anything: it is a label: what it is worth is what the hold of that sum in a sandbox is worth. -/
noncomputable def Try.pinned : Pinned := { name := "ythnijchgjfmgaaa", sum := "90754e33ee2633e2a08c7c3e07b6ca2b0351ff7e19eb8bdc8a04ac417dcc9fb1", checked := Try.checked }
namespace Rows
def none {H : Type} : Left H := { results := [], args := [] }

/-- 'laws.FnExactRankOf': WHATEVER THE INPUT: true; the input reads as it did. -/
def fnExactRankOfSpec : ChangeSpec := { name := "fnExactRankOf", fn := fun _ => fun
  | [d] => { results := [.lit (.bool true)], args := [d] }
  | _ => none }
def fnExactRankOfRow : OpenClaim := { program := "ythnijchgjfmgaaa", sum := "90754e33ee2633e2a08c7c3e07b6ca2b0351ff7e19eb8bdc8a04ac417dcc9fb1", func := "loop.example/g01005/laws.FnExactRankOf", spec := "fnExactRankOf", unfollowed := true, recurses := true, apart := false }
def FnExactRankOfSaid : Prop := fnExactRankOfRow.holds Try.pinned (OpenSpec.ofChange fnExactRankOfSpec)

/-- ITS FALSE NEIGHBOUR: 'it returns false'. Refute it at one input. -/
def fnExactRankOfWrong : ChangeSpec := { name := "fnExactRankOf", fn := fun _ => fun
  | [d] => { results := [.lit (.bool false)], args := [d] }
  | _ => none }
def FnExactRankOfWrongFalsely : Prop := fnExactRankOfRow.holds Try.pinned (OpenSpec.ofChange fnExactRankOfWrong)

/-- 'laws.FnExactDeterminantOf': WHATEVER THE INPUT: true; the input reads as it did. -/
def fnExactDeterminantOfSpec : ChangeSpec := { name := "fnExactDeterminantOf", fn := fun _ => fun
  | [d] => { results := [.lit (.bool true)], args := [d] }
  | _ => none }
def fnExactDeterminantOfRow : OpenClaim := { program := "ythnijchgjfmgaaa", sum := "90754e33ee2633e2a08c7c3e07b6ca2b0351ff7e19eb8bdc8a04ac417dcc9fb1", func := "loop.example/g01005/laws.FnExactDeterminantOf", spec := "fnExactDeterminantOf", unfollowed := true, recurses := true, apart := false }
def FnExactDeterminantOfSaid : Prop := fnExactDeterminantOfRow.holds Try.pinned (OpenSpec.ofChange fnExactDeterminantOfSpec)

/-- ITS FALSE NEIGHBOUR: 'it returns false'. Refute it at one input. -/
def fnExactDeterminantOfWrong : ChangeSpec := { name := "fnExactDeterminantOf", fn := fun _ => fun
  | [d] => { results := [.lit (.bool false)], args := [d] }
  | _ => none }
def FnExactDeterminantOfWrongFalsely : Prop := fnExactDeterminantOfRow.holds Try.pinned (OpenSpec.ofChange fnExactDeterminantOfWrong)

/-- 'laws.FnExactMultiply': WHATEVER THE INPUT: true; the input reads as it did. -/
def fnExactMultiplySpec : ChangeSpec := { name := "fnExactMultiply", fn := fun _ => fun
  | [d1, d2] => { results := [.lit (.bool true)], args := [d1, d2] }
  | _ => none }
def fnExactMultiplyRow : OpenClaim := { program := "ythnijchgjfmgaaa", sum := "90754e33ee2633e2a08c7c3e07b6ca2b0351ff7e19eb8bdc8a04ac417dcc9fb1", func := "loop.example/g01005/laws.FnExactMultiply", spec := "fnExactMultiply", unfollowed := true, recurses := true, apart := false }
def FnExactMultiplySaid : Prop := fnExactMultiplyRow.holds Try.pinned (OpenSpec.ofChange fnExactMultiplySpec)

/-- ITS FALSE NEIGHBOUR: 'it returns false'. Refute it at one input. -/
def fnExactMultiplyWrong : ChangeSpec := { name := "fnExactMultiply", fn := fun _ => fun
  | [d1, d2] => { results := [.lit (.bool false)], args := [d1, d2] }
  | _ => none }
def FnExactMultiplyWrongFalsely : Prop := fnExactMultiplyRow.holds Try.pinned (OpenSpec.ofChange fnExactMultiplyWrong)

/-- 'laws.FnExactStackRows': WHATEVER THE INPUT: true; the input reads as it did. -/
def fnExactStackRowsSpec : ChangeSpec := { name := "fnExactStackRows", fn := fun _ => fun
  | [d1, d2] => { results := [.lit (.bool true)], args := [d1, d2] }
  | _ => none }
def fnExactStackRowsRow : OpenClaim := { program := "ythnijchgjfmgaaa", sum := "90754e33ee2633e2a08c7c3e07b6ca2b0351ff7e19eb8bdc8a04ac417dcc9fb1", func := "loop.example/g01005/laws.FnExactStackRows", spec := "fnExactStackRows", unfollowed := true, recurses := true, apart := false }
def FnExactStackRowsSaid : Prop := fnExactStackRowsRow.holds Try.pinned (OpenSpec.ofChange fnExactStackRowsSpec)

/-- ITS FALSE NEIGHBOUR: 'it returns false'. Refute it at one input. -/
def fnExactStackRowsWrong : ChangeSpec := { name := "fnExactStackRows", fn := fun _ => fun
  | [d1, d2] => { results := [.lit (.bool false)], args := [d1, d2] }
  | _ => none }
def FnExactStackRowsWrongFalsely : Prop := fnExactStackRowsRow.holds Try.pinned (OpenSpec.ofChange fnExactStackRowsWrong)

/-- 'laws.FnExactReducedForm': WHATEVER THE INPUT: true; the input reads as it did. -/
def fnExactReducedFormSpec : ChangeSpec := { name := "fnExactReducedForm", fn := fun _ => fun
  | [d] => { results := [.lit (.bool true)], args := [d] }
  | _ => none }
def fnExactReducedFormRow : OpenClaim := { program := "ythnijchgjfmgaaa", sum := "90754e33ee2633e2a08c7c3e07b6ca2b0351ff7e19eb8bdc8a04ac417dcc9fb1", func := "loop.example/g01005/laws.FnExactReducedForm", spec := "fnExactReducedForm", unfollowed := true, recurses := true, apart := false }
def FnExactReducedFormSaid : Prop := fnExactReducedFormRow.holds Try.pinned (OpenSpec.ofChange fnExactReducedFormSpec)

/-- ITS FALSE NEIGHBOUR: 'it returns false'. Refute it at one input. -/
def fnExactReducedFormWrong : ChangeSpec := { name := "fnExactReducedForm", fn := fun _ => fun
  | [d] => { results := [.lit (.bool false)], args := [d] }
  | _ => none }
def FnExactReducedFormWrongFalsely : Prop := fnExactReducedFormRow.holds Try.pinned (OpenSpec.ofChange fnExactReducedFormWrong)

/- THE SECOND FORM. 'bulk': how many values and letters a reading holds, each counted each time it is reached (what is shared counts as often as it is met; a slice's spare places count too). A statement '..UptoSaid' is the law's where the arguments, and the package variables that the reading takes, are together of bulk at most 1048576: NARROWER than '..Said'. Prove '..Said' where nothing that the law and all that it calls make is longer than what came in: it says more and counts as full. Else prove '..UptoSaid'. A law counts once. -/
mutual
def uptoBulk {H : Type} : DataW H → Nat
  | .lit (.string bytes) => bytes.length + 1
  | .lit _ => 1
  | .nil => 1
  | .ptr d => uptoBulk d + 1
  | .slice elems spare => uptoBulkAll elems + uptoBulkAll spare + 1
  | .agg parts => uptoBulkAll parts + 1
  | .iface _ d => uptoBulk d + 1
  | .map entries => uptoBulkEntries entries + 1
  | .held _ => 1
def uptoBulkAll {H : Type} : List (DataW H) → Nat
  | [] => 0
  | d :: r => uptoBulk d + uptoBulkAll r
def uptoBulkEntries {H : Type} : List (Lit × DataW H) → Nat
  | [] => 0
  | x :: r => uptoBulkEntry x + uptoBulkEntries r
def uptoBulkEntry {H : Type} : Lit × DataW H → Nat
  | (.string bytes, d) => bytes.length + uptoBulk d + 1
  | (_, d) => uptoBulk d + 1
 end
def uptoSmall : (H : Type) → List (DataW H) → Bool := fun _ ds => decide (uptoBulkAll ds ≤ 1048576)
def OpenSpec.upto (s : _root_.Go.ChangeSpec) : _root_.Go.OpenSpec := { _root_.Go.OpenSpec.ofChange s with cond := some uptoSmall }

/-- 'laws.FnExactRankOf', WHERE WHAT IT READS IS OF BULK AT MOST 1048576: true; the input reads as it did. -/
def fnExactRankOfUptoRow : OpenClaim := { program := "ythnijchgjfmgaaa", sum := "90754e33ee2633e2a08c7c3e07b6ca2b0351ff7e19eb8bdc8a04ac417dcc9fb1", func := "loop.example/g01005/laws.FnExactRankOf", spec := "fnExactRankOf", unfollowed := true, recurses := true, apart := false, narrowed := true }
def FnExactRankOfUptoSaid : Prop := fnExactRankOfUptoRow.holds Try.pinned (OpenSpec.upto fnExactRankOfSpec)

/-- 'laws.FnExactDeterminantOf', WHERE WHAT IT READS IS OF BULK AT MOST 1048576: true; the input reads as it did. -/
def fnExactDeterminantOfUptoRow : OpenClaim := { program := "ythnijchgjfmgaaa", sum := "90754e33ee2633e2a08c7c3e07b6ca2b0351ff7e19eb8bdc8a04ac417dcc9fb1", func := "loop.example/g01005/laws.FnExactDeterminantOf", spec := "fnExactDeterminantOf", unfollowed := true, recurses := true, apart := false, narrowed := true }
def FnExactDeterminantOfUptoSaid : Prop := fnExactDeterminantOfUptoRow.holds Try.pinned (OpenSpec.upto fnExactDeterminantOfSpec)

/-- 'laws.FnExactMultiply', WHERE WHAT IT READS IS OF BULK AT MOST 1048576: true; the input reads as it did. -/
def fnExactMultiplyUptoRow : OpenClaim := { program := "ythnijchgjfmgaaa", sum := "90754e33ee2633e2a08c7c3e07b6ca2b0351ff7e19eb8bdc8a04ac417dcc9fb1", func := "loop.example/g01005/laws.FnExactMultiply", spec := "fnExactMultiply", unfollowed := true, recurses := true, apart := false, narrowed := true }
def FnExactMultiplyUptoSaid : Prop := fnExactMultiplyUptoRow.holds Try.pinned (OpenSpec.upto fnExactMultiplySpec)

/-- 'laws.FnExactStackRows', WHERE WHAT IT READS IS OF BULK AT MOST 1048576: true; the input reads as it did. -/
def fnExactStackRowsUptoRow : OpenClaim := { program := "ythnijchgjfmgaaa", sum := "90754e33ee2633e2a08c7c3e07b6ca2b0351ff7e19eb8bdc8a04ac417dcc9fb1", func := "loop.example/g01005/laws.FnExactStackRows", spec := "fnExactStackRows", unfollowed := true, recurses := true, apart := false, narrowed := true }
def FnExactStackRowsUptoSaid : Prop := fnExactStackRowsUptoRow.holds Try.pinned (OpenSpec.upto fnExactStackRowsSpec)

/-- 'laws.FnExactReducedForm', WHERE WHAT IT READS IS OF BULK AT MOST 1048576: true; the input reads as it did. -/
def fnExactReducedFormUptoRow : OpenClaim := { program := "ythnijchgjfmgaaa", sum := "90754e33ee2633e2a08c7c3e07b6ca2b0351ff7e19eb8bdc8a04ac417dcc9fb1", func := "loop.example/g01005/laws.FnExactReducedForm", spec := "fnExactReducedForm", unfollowed := true, recurses := true, apart := false, narrowed := true }
def FnExactReducedFormUptoSaid : Prop := fnExactReducedFormUptoRow.holds Try.pinned (OpenSpec.upto fnExactReducedFormSpec)

end Rows
end Go.Proofs.Ythnijchgjfmgaaa
