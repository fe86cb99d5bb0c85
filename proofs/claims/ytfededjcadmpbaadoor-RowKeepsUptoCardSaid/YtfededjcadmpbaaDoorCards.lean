/-
  DERIVED. GIVEN WITH THE SEED: THE CARDS: each row of YtfededjcadmpbaaDoorRows.lean that lists a variable, with what it lists TIED to the program's text (the seventh form; the later family's looks); each row that meets fmt, with fmt's text TOLD by the authors' own Lean function (tested against real Go, not proved from fmt's source: count such statements apart). THE CARD IS WHAT COUNTS. Prove the row's statement (the work); the ties are given (YtfededjcadmpbaaDoorTie.lean); close each card by the builder's one call (the guide's Derived/Test/ToyasCard.lean, 'card_holds'). Laid BY PROGRAM, IN A SANDBOX (cutbox-door.mjs). By AI agents, Wed Nov 11 2026. No macro, syntax, notation, axiom, sorry.
-/
import Derived.Test.YtfededjcadmpbaaDoorRows
import GoSem.ClaimSeven
namespace Go.Proofs.YtfededjcadmpbaaDoor
namespace Rows

/-- THE TIED CARD OF 'caissonlaw14.RowKeys'. -/
def rowKeysCard : Claim7 := { stood := { row := rowKeysRow, standIns := [], harness := (true, "c5da90ae69cd3fc2a71904c1df7bc65ed8962c377c2ed8d371c11c67a56ded4c"), looks := true }, kinds := [], alts := [], laidByText := true, laidKinds := [.data, .pinned], laidTests := true, laidLooks := .later }
def RowKeysCardSaid : Prop := Claim7.holds Tryd.pinned (.plain (OpenSpec.ofChange rowKeysSpec)) rowKeysCard

/-- THE TIED CARD OF 'caissonlaw14.RowChecks'. -/
def rowChecksCard : Claim7 := { stood := { row := rowChecksRow, standIns := [], harness := (true, "c5da90ae69cd3fc2a71904c1df7bc65ed8962c377c2ed8d371c11c67a56ded4c"), looks := true }, kinds := [], alts := [], laidByText := true, laidKinds := [.data, .pinned], laidTests := true, laidLooks := .later }
def RowChecksCardSaid : Prop := Claim7.holds Tryd.pinned (.plain (OpenSpec.ofChange rowChecksSpec)) rowChecksCard

/-- THE TIED CARD OF 'caissonlaw14.RowApart'. -/
def rowApartCard : Claim7 := { stood := { row := rowApartRow, standIns := [], harness := (true, "c5da90ae69cd3fc2a71904c1df7bc65ed8962c377c2ed8d371c11c67a56ded4c"), looks := true }, kinds := [], alts := [], laidByText := true, laidKinds := [.data, .pinned], laidTests := true, laidLooks := .later }
def RowApartCardSaid : Prop := Claim7.holds Tryd.pinned (.plain (OpenSpec.ofChange rowApartSpec)) rowApartCard

/-- THE TIED CARD OF 'caissonlaw14.RowEntries'. -/
def rowEntriesCard : Claim7 := { stood := { row := rowEntriesRow, standIns := [], harness := (true, "c5da90ae69cd3fc2a71904c1df7bc65ed8962c377c2ed8d371c11c67a56ded4c"), looks := true }, kinds := [], alts := [], laidByText := true, laidKinds := [.data, .pinned], laidTests := true, laidLooks := .later }
def RowEntriesCardSaid : Prop := Claim7.holds Tryd.pinned (.plain (OpenSpec.ofChange rowEntriesSpec)) rowEntriesCard

/-- THE TIED CARD OF 'caissonlaw14.RowKeeps'. -/
def rowKeepsCard : Claim7 := { stood := { row := rowKeepsRow, standIns := [], harness := (true, "c5da90ae69cd3fc2a71904c1df7bc65ed8962c377c2ed8d371c11c67a56ded4c"), looks := true }, kinds := [], alts := [], laidByText := true, laidKinds := [.data, .pinned], laidTests := true, laidLooks := .later }
def RowKeepsCardSaid : Prop := Claim7.holds Tryd.pinned (.plain (OpenSpec.ofChange rowKeepsSpec)) rowKeepsCard

/-- THE SECOND FORM's CARD OF 'caissonlaw14.RowKeys'. -/
def rowKeysUptoCard : Claim7 := { stood := { row := rowKeysUptoRow, standIns := [], harness := (true, "c5da90ae69cd3fc2a71904c1df7bc65ed8962c377c2ed8d371c11c67a56ded4c"), looks := true }, kinds := [], alts := [], laidByText := true, laidKinds := [.data, .pinned], laidTests := true, laidLooks := .later }
def RowKeysUptoCardSaid : Prop := Claim7.holds Tryd.pinned (.plain (OpenSpec.upto rowKeysSpec)) rowKeysUptoCard

/-- THE SECOND FORM's CARD OF 'caissonlaw14.RowChecks'. -/
def rowChecksUptoCard : Claim7 := { stood := { row := rowChecksUptoRow, standIns := [], harness := (true, "c5da90ae69cd3fc2a71904c1df7bc65ed8962c377c2ed8d371c11c67a56ded4c"), looks := true }, kinds := [], alts := [], laidByText := true, laidKinds := [.data, .pinned], laidTests := true, laidLooks := .later }
def RowChecksUptoCardSaid : Prop := Claim7.holds Tryd.pinned (.plain (OpenSpec.upto rowChecksSpec)) rowChecksUptoCard

/-- THE SECOND FORM's CARD OF 'caissonlaw14.RowApart'. -/
def rowApartUptoCard : Claim7 := { stood := { row := rowApartUptoRow, standIns := [], harness := (true, "c5da90ae69cd3fc2a71904c1df7bc65ed8962c377c2ed8d371c11c67a56ded4c"), looks := true }, kinds := [], alts := [], laidByText := true, laidKinds := [.data, .pinned], laidTests := true, laidLooks := .later }
def RowApartUptoCardSaid : Prop := Claim7.holds Tryd.pinned (.plain (OpenSpec.upto rowApartSpec)) rowApartUptoCard

/-- THE SECOND FORM's CARD OF 'caissonlaw14.RowEntries'. -/
def rowEntriesUptoCard : Claim7 := { stood := { row := rowEntriesUptoRow, standIns := [], harness := (true, "c5da90ae69cd3fc2a71904c1df7bc65ed8962c377c2ed8d371c11c67a56ded4c"), looks := true }, kinds := [], alts := [], laidByText := true, laidKinds := [.data, .pinned], laidTests := true, laidLooks := .later }
def RowEntriesUptoCardSaid : Prop := Claim7.holds Tryd.pinned (.plain (OpenSpec.upto rowEntriesSpec)) rowEntriesUptoCard

/-- THE SECOND FORM's CARD OF 'caissonlaw14.RowKeeps'. -/
def rowKeepsUptoCard : Claim7 := { stood := { row := rowKeepsUptoRow, standIns := [], harness := (true, "c5da90ae69cd3fc2a71904c1df7bc65ed8962c377c2ed8d371c11c67a56ded4c"), looks := true }, kinds := [], alts := [], laidByText := true, laidKinds := [.data, .pinned], laidTests := true, laidLooks := .later }
def RowKeepsUptoCardSaid : Prop := Claim7.holds Tryd.pinned (.plain (OpenSpec.upto rowKeepsSpec)) rowKeepsUptoCard
end Rows
end Go.Proofs.YtfededjcadmpbaaDoor
