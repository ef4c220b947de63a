/-
  DERIVED. GIVEN WITH THE SEED: THE CARDS: each row of YtbalikebmacldaaGreatDoorRows.lean that lists a variable, with what it lists TIED to the program's text (the seventh form; the later family's looks); each row that meets fmt, with fmt's text TOLD by the authors' own Lean function (tested against real Go, not proved from fmt's source: count such statements apart). THE CARD IS WHAT COUNTS. Prove the row's statement (the work); the ties are given (YtbalikebmacldaaGreatDoorTie.lean); close each card by the builder's one call (the guide's Derived/Test/ToyasCard.lean, 'card_holds'). Laid BY PROGRAM, IN A SANDBOX (cutbox-door.mjs). By AI agents, Wed Nov 11 2026. No macro, syntax, notation, axiom, sorry.
-/
import Derived.Test.YtbalikebmacldaaGreatDoorRows
import GoSem.ClaimSeven
namespace Go.Proofs.YtbalikebmacldaaGreatDoor
namespace Rows

/-- THE TIED CARD OF 'laws.FnMatrices'. -/
def fnMatricesCard : Claim7 := { stood := { row := fnMatricesRow, standIns := [], harness := (true, "8477a79def43ecc745f803c5e45658fcd603e44378a19f388fef45da7dba7739"), looks := true }, kinds := [], alts := [], laidByText := true, laidKinds := [.data, .data, .data, .data, .sentinel, .sentinel, .pinned], laidTests := true, laidLooks := .later }
def FnMatricesCardSaid : Prop := Claim7.holds Tryz.pinned (.plain (OpenSpec.ofChange fnMatricesSpec)) fnMatricesCard

/-- THE SECOND FORM's CARD OF 'laws.FnMatrices'. -/
def fnMatricesUptoCard : Claim7 := { stood := { row := fnMatricesUptoRow, standIns := [], harness := (true, "8477a79def43ecc745f803c5e45658fcd603e44378a19f388fef45da7dba7739"), looks := true }, kinds := [], alts := [], laidByText := true, laidKinds := [.data, .data, .data, .data, .sentinel, .sentinel, .pinned], laidTests := true, laidLooks := .later }
def FnMatricesUptoCardSaid : Prop := Claim7.holds Tryz.pinned (.plain (OpenSpec.upto fnMatricesSpec)) fnMatricesUptoCard
end Rows
end Go.Proofs.YtbalikebmacldaaGreatDoor
