/-
  DERIVED. GIVEN WITH THE SEED: THE CARDS: each row of YtapikmfckpgjoaaDoorRows.lean that lists a variable, with what it lists TIED to the program's text (the seventh form; the later family's looks); each row that meets fmt, with fmt's text TOLD by the authors' own Lean function (tested against real Go, not proved from fmt's source: count such statements apart). THE CARD IS WHAT COUNTS. Prove the row's statement (the work); the ties are given (YtapikmfckpgjoaaDoorTie.lean); close each card by the builder's one call (the guide's Derived/Test/ToyasCard.lean, 'card_holds'). Laid BY PROGRAM, IN A SANDBOX (cutbox-door.mjs). By AI agents, Wed Nov 11 2026. No macro, syntax, notation, axiom, sorry.
-/
import Derived.Test.YtapikmfckpgjoaaDoorRows
import GoSem.ClaimSeven
namespace Go.Proofs.YtapikmfckpgjoaaDoor
namespace Rows

/-- THE TIED CARD OF 'gnomonlaw20.DdSplits'. -/
def ddSplitsCard : Claim7 := { stood := { row := ddSplitsRow, standIns := [], harness := (true, "3f8394d662f42e397664a7ca59f6861b2e8b865af13a78fb8fcab684b3d3da14"), looks := false }, kinds := [], alts := [], laidByText := true, laidKinds := [.data], laidTests := true, laidLooks := .later }
def DdSplitsCardSaid : Prop := Claim7.holds Tryd.pinned (.plain (OpenSpec.ofChange ddSplitsSpec)) ddSplitsCard

/-- THE TIED CARD OF 'gnomonlaw20.DdKeeps'. -/
def ddKeepsCard : Claim7 := { stood := { row := ddKeepsRow, standIns := [], harness := (true, "3f8394d662f42e397664a7ca59f6861b2e8b865af13a78fb8fcab684b3d3da14"), looks := false }, kinds := [], alts := [], laidByText := true, laidKinds := [.data], laidTests := true, laidLooks := .later }
def DdKeepsCardSaid : Prop := Claim7.holds Tryd.pinned (.plain (OpenSpec.ofChange ddKeepsSpec)) ddKeepsCard

/-- THE TIED CARD OF 'gnomonlaw20.DdOrder'. -/
def ddOrderCard : Claim7 := { stood := { row := ddOrderRow, standIns := [], harness := (true, "3f8394d662f42e397664a7ca59f6861b2e8b865af13a78fb8fcab684b3d3da14"), looks := false }, kinds := [], alts := [], laidByText := true, laidKinds := [.data], laidTests := true, laidLooks := .later }
def DdOrderCardSaid : Prop := Claim7.holds Tryd.pinned (.plain (OpenSpec.ofChange ddOrderSpec)) ddOrderCard

/-- THE TIED CARD OF 'gnomonlaw20.DdUndoes'. -/
def ddUndoesCard : Claim7 := { stood := { row := ddUndoesRow, standIns := [], harness := (true, "3f8394d662f42e397664a7ca59f6861b2e8b865af13a78fb8fcab684b3d3da14"), looks := false }, kinds := [], alts := [], laidByText := true, laidKinds := [.data], laidTests := true, laidLooks := .later }
def DdUndoesCardSaid : Prop := Claim7.holds Tryd.pinned (.plain (OpenSpec.ofChange ddUndoesSpec)) ddUndoesCard

/-- THE TIED CARD OF 'gnomontop.WholeDoubles'. -/
def wholeDoublesCard : Claim7 := { stood := { row := wholeDoublesRow, standIns := [], harness := (true, "3f8394d662f42e397664a7ca59f6861b2e8b865af13a78fb8fcab684b3d3da14"), looks := false }, kinds := [], alts := [], laidByText := true, laidKinds := [.data], laidTests := true, laidLooks := .later }
def WholeDoublesCardSaid : Prop := Claim7.holds Tryd.pinned (.plain (OpenSpec.ofChange wholeDoublesSpec)) wholeDoublesCard

/-- THE SECOND FORM's CARD OF 'gnomonlaw20.DdSplits'. -/
def ddSplitsUptoCard : Claim7 := { stood := { row := ddSplitsUptoRow, standIns := [], harness := (true, "3f8394d662f42e397664a7ca59f6861b2e8b865af13a78fb8fcab684b3d3da14"), looks := false }, kinds := [], alts := [], laidByText := true, laidKinds := [.data], laidTests := true, laidLooks := .later }
def DdSplitsUptoCardSaid : Prop := Claim7.holds Tryd.pinned (.plain (OpenSpec.upto ddSplitsSpec)) ddSplitsUptoCard

/-- THE SECOND FORM's CARD OF 'gnomonlaw20.DdKeeps'. -/
def ddKeepsUptoCard : Claim7 := { stood := { row := ddKeepsUptoRow, standIns := [], harness := (true, "3f8394d662f42e397664a7ca59f6861b2e8b865af13a78fb8fcab684b3d3da14"), looks := false }, kinds := [], alts := [], laidByText := true, laidKinds := [.data], laidTests := true, laidLooks := .later }
def DdKeepsUptoCardSaid : Prop := Claim7.holds Tryd.pinned (.plain (OpenSpec.upto ddKeepsSpec)) ddKeepsUptoCard

/-- THE SECOND FORM's CARD OF 'gnomonlaw20.DdOrder'. -/
def ddOrderUptoCard : Claim7 := { stood := { row := ddOrderUptoRow, standIns := [], harness := (true, "3f8394d662f42e397664a7ca59f6861b2e8b865af13a78fb8fcab684b3d3da14"), looks := false }, kinds := [], alts := [], laidByText := true, laidKinds := [.data], laidTests := true, laidLooks := .later }
def DdOrderUptoCardSaid : Prop := Claim7.holds Tryd.pinned (.plain (OpenSpec.upto ddOrderSpec)) ddOrderUptoCard

/-- THE SECOND FORM's CARD OF 'gnomonlaw20.DdUndoes'. -/
def ddUndoesUptoCard : Claim7 := { stood := { row := ddUndoesUptoRow, standIns := [], harness := (true, "3f8394d662f42e397664a7ca59f6861b2e8b865af13a78fb8fcab684b3d3da14"), looks := false }, kinds := [], alts := [], laidByText := true, laidKinds := [.data], laidTests := true, laidLooks := .later }
def DdUndoesUptoCardSaid : Prop := Claim7.holds Tryd.pinned (.plain (OpenSpec.upto ddUndoesSpec)) ddUndoesUptoCard

/-- THE SECOND FORM's CARD OF 'gnomontop.WholeDoubles'. -/
def wholeDoublesUptoCard : Claim7 := { stood := { row := wholeDoublesUptoRow, standIns := [], harness := (true, "3f8394d662f42e397664a7ca59f6861b2e8b865af13a78fb8fcab684b3d3da14"), looks := false }, kinds := [], alts := [], laidByText := true, laidKinds := [.data], laidTests := true, laidLooks := .later }
def WholeDoublesUptoCardSaid : Prop := Claim7.holds Tryd.pinned (.plain (OpenSpec.upto wholeDoublesSpec)) wholeDoublesUptoCard
end Rows
end Go.Proofs.YtapikmfckpgjoaaDoor
