/-
  DERIVED. GIVEN WITH THE SEED: THE CARDS: each row of YtfededjcadmpbaaGreatDoorRows.lean that lists a variable, with what it lists TIED to the program's text (the seventh form; the later family's looks); each row that meets fmt, with fmt's text TOLD by the authors' own Lean function (tested against real Go, not proved from fmt's source: count such statements apart). THE CARD IS WHAT COUNTS. Prove the row's statement (the work); the ties are given (YtfededjcadmpbaaGreatDoorTie.lean); close each card by the builder's one call (the guide's Derived/Test/ToyasCard.lean, 'card_holds'). Laid BY PROGRAM, IN A SANDBOX (cutbox-door.mjs). By AI agents, Wed Nov 11 2026. No macro, syntax, notation, axiom, sorry.
-/
import Derived.Test.YtfededjcadmpbaaGreatDoorRows
import GoSem.ClaimSeven
namespace Go.Proofs.YtfededjcadmpbaaGreatDoor
namespace Rows

/-- THE TIED CARD OF 'caissonlaw14.RowChanges'. -/
def rowChangesCard : Claim7 := { stood := { row := rowChangesRow, standIns := [], harness := (true, "459bc277c9b310bcdac89a719c9b6d75f104e2b20097bfe13e489795bf129d44"), looks := true }, kinds := [], alts := [], laidByText := true, laidKinds := [.data, .pinned], laidTests := true, laidLooks := .later }
def RowChangesCardSaid : Prop := Claim7.holds Tryz.pinned (.plain (OpenSpec.ofChange rowChangesSpec)) rowChangesCard

/-- THE SECOND FORM's CARD OF 'caissonlaw14.RowChanges'. -/
def rowChangesUptoCard : Claim7 := { stood := { row := rowChangesUptoRow, standIns := [], harness := (true, "459bc277c9b310bcdac89a719c9b6d75f104e2b20097bfe13e489795bf129d44"), looks := true }, kinds := [], alts := [], laidByText := true, laidKinds := [.data, .pinned], laidTests := true, laidLooks := .later }
def RowChangesUptoCardSaid : Prop := Claim7.holds Tryz.pinned (.plain (OpenSpec.upto rowChangesSpec)) rowChangesUptoCard
end Rows
end Go.Proofs.YtfededjcadmpbaaGreatDoor
