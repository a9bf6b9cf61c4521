/-
  DERIVED. GIVEN WITH THE SEED: THE CARDS: each row of YtelfmddcjlocpaaGreatDoorRows.lean that lists a variable, with what it lists TIED to the program's text (the seventh form; the later family's looks); each row that meets fmt, with fmt's text TOLD by the authors' own Lean function (tested against real Go, not proved from fmt's source: count such statements apart). THE CARD IS WHAT COUNTS. Prove the row's statement (the work); the ties are given (YtelfmddcjlocpaaGreatDoorTie.lean); close each card by the builder's one call (the guide's Derived/Test/ToyasCard.lean, 'card_holds'). Laid BY PROGRAM, IN A SANDBOX (cutbox-door.mjs). By AI agents, Wed Nov 11 2026. No macro, syntax, notation, axiom, sorry.
-/
import Derived.Test.YtelfmddcjlocpaaGreatDoorRows
import GoSem.ClaimSeven
namespace Go.Proofs.YtelfmddcjlocpaaGreatDoor
namespace Rows

/-- THE TIED CARD OF 'gnomonlaw08.RoundQuoted'. -/
def roundQuotedCard : Claim7 := { stood := { row := roundQuotedRow, standIns := [], harness := (true, "21df1643601d31c50d63e328b6f50743a6d51252280f6510e9cb3302ce2455c0"), looks := false }, kinds := [], alts := [], laidByText := true, laidKinds := [.data], laidTests := true, laidLooks := .later }
def RoundQuotedCardSaid : Prop := Claim7.holds Tryz.pinned (.plain (OpenSpec.ofChange roundQuotedSpec)) roundQuotedCard

/-- THE TIED CARD OF 'gnomonlaw08.RoundRooted'. -/
def roundRootedCard : Claim7 := { stood := { row := roundRootedRow, standIns := [], harness := (true, "21df1643601d31c50d63e328b6f50743a6d51252280f6510e9cb3302ce2455c0"), looks := false }, kinds := [], alts := [], laidByText := true, laidKinds := [.data], laidTests := true, laidLooks := .later }
def RoundRootedCardSaid : Prop := Claim7.holds Tryz.pinned (.plain (OpenSpec.ofChange roundRootedSpec)) roundRootedCard

/-- THE TIED CARD OF 'gnomonlaw08.RoundKeeps'. -/
def roundKeepsCard : Claim7 := { stood := { row := roundKeepsRow, standIns := [], harness := (true, "21df1643601d31c50d63e328b6f50743a6d51252280f6510e9cb3302ce2455c0"), looks := false }, kinds := [], alts := [], laidByText := true, laidKinds := [.data], laidTests := true, laidLooks := .later }
def RoundKeepsCardSaid : Prop := Claim7.holds Tryz.pinned (.plain (OpenSpec.ofChange roundKeepsSpec)) roundKeepsCard

/-- THE TIED CARD OF 'gnomonlaw08.RoundNearests'. -/
def roundNearestsCard : Claim7 := { stood := { row := roundNearestsRow, standIns := [], harness := (true, "21df1643601d31c50d63e328b6f50743a6d51252280f6510e9cb3302ce2455c0"), looks := false }, kinds := [], alts := [], laidByText := true, laidKinds := [.data], laidTests := true, laidLooks := .later }
def RoundNearestsCardSaid : Prop := Claim7.holds Tryz.pinned (.plain (OpenSpec.ofChange roundNearestsSpec)) roundNearestsCard

/-- THE TIED CARD OF 'gnomonlaw08.RoundCells'. -/
def roundCellsCard : Claim7 := { stood := { row := roundCellsRow, standIns := [], harness := (true, "21df1643601d31c50d63e328b6f50743a6d51252280f6510e9cb3302ce2455c0"), looks := false }, kinds := [], alts := [], laidByText := true, laidKinds := [.data], laidTests := true, laidLooks := .later }
def RoundCellsCardSaid : Prop := Claim7.holds Tryz.pinned (.plain (OpenSpec.ofChange roundCellsSpec)) roundCellsCard

/-- THE TIED CARD OF 'gnomonlaw08.RoundQuotients'. -/
def roundQuotientsCard : Claim7 := { stood := { row := roundQuotientsRow, standIns := [], harness := (true, "21df1643601d31c50d63e328b6f50743a6d51252280f6510e9cb3302ce2455c0"), looks := false }, kinds := [], alts := [], laidByText := true, laidKinds := [.data], laidTests := true, laidLooks := .later }
def RoundQuotientsCardSaid : Prop := Claim7.holds Tryz.pinned (.plain (OpenSpec.ofChange roundQuotientsSpec)) roundQuotientsCard

/-- THE TIED CARD OF 'gnomonlaw08.RoundNarrows'. -/
def roundNarrowsCard : Claim7 := { stood := { row := roundNarrowsRow, standIns := [], harness := (true, "21df1643601d31c50d63e328b6f50743a6d51252280f6510e9cb3302ce2455c0"), looks := false }, kinds := [], alts := [], laidByText := true, laidKinds := [.data], laidTests := true, laidLooks := .later }
def RoundNarrowsCardSaid : Prop := Claim7.holds Tryz.pinned (.plain (OpenSpec.ofChange roundNarrowsSpec)) roundNarrowsCard

/-- THE SECOND FORM's CARD OF 'gnomonlaw08.RoundQuoted'. -/
def roundQuotedUptoCard : Claim7 := { stood := { row := roundQuotedUptoRow, standIns := [], harness := (true, "21df1643601d31c50d63e328b6f50743a6d51252280f6510e9cb3302ce2455c0"), looks := false }, kinds := [], alts := [], laidByText := true, laidKinds := [.data], laidTests := true, laidLooks := .later }
def RoundQuotedUptoCardSaid : Prop := Claim7.holds Tryz.pinned (.plain (OpenSpec.upto roundQuotedSpec)) roundQuotedUptoCard

/-- THE SECOND FORM's CARD OF 'gnomonlaw08.RoundRooted'. -/
def roundRootedUptoCard : Claim7 := { stood := { row := roundRootedUptoRow, standIns := [], harness := (true, "21df1643601d31c50d63e328b6f50743a6d51252280f6510e9cb3302ce2455c0"), looks := false }, kinds := [], alts := [], laidByText := true, laidKinds := [.data], laidTests := true, laidLooks := .later }
def RoundRootedUptoCardSaid : Prop := Claim7.holds Tryz.pinned (.plain (OpenSpec.upto roundRootedSpec)) roundRootedUptoCard

/-- THE SECOND FORM's CARD OF 'gnomonlaw08.RoundKeeps'. -/
def roundKeepsUptoCard : Claim7 := { stood := { row := roundKeepsUptoRow, standIns := [], harness := (true, "21df1643601d31c50d63e328b6f50743a6d51252280f6510e9cb3302ce2455c0"), looks := false }, kinds := [], alts := [], laidByText := true, laidKinds := [.data], laidTests := true, laidLooks := .later }
def RoundKeepsUptoCardSaid : Prop := Claim7.holds Tryz.pinned (.plain (OpenSpec.upto roundKeepsSpec)) roundKeepsUptoCard

/-- THE SECOND FORM's CARD OF 'gnomonlaw08.RoundNearests'. -/
def roundNearestsUptoCard : Claim7 := { stood := { row := roundNearestsUptoRow, standIns := [], harness := (true, "21df1643601d31c50d63e328b6f50743a6d51252280f6510e9cb3302ce2455c0"), looks := false }, kinds := [], alts := [], laidByText := true, laidKinds := [.data], laidTests := true, laidLooks := .later }
def RoundNearestsUptoCardSaid : Prop := Claim7.holds Tryz.pinned (.plain (OpenSpec.upto roundNearestsSpec)) roundNearestsUptoCard

/-- THE SECOND FORM's CARD OF 'gnomonlaw08.RoundCells'. -/
def roundCellsUptoCard : Claim7 := { stood := { row := roundCellsUptoRow, standIns := [], harness := (true, "21df1643601d31c50d63e328b6f50743a6d51252280f6510e9cb3302ce2455c0"), looks := false }, kinds := [], alts := [], laidByText := true, laidKinds := [.data], laidTests := true, laidLooks := .later }
def RoundCellsUptoCardSaid : Prop := Claim7.holds Tryz.pinned (.plain (OpenSpec.upto roundCellsSpec)) roundCellsUptoCard

/-- THE SECOND FORM's CARD OF 'gnomonlaw08.RoundQuotients'. -/
def roundQuotientsUptoCard : Claim7 := { stood := { row := roundQuotientsUptoRow, standIns := [], harness := (true, "21df1643601d31c50d63e328b6f50743a6d51252280f6510e9cb3302ce2455c0"), looks := false }, kinds := [], alts := [], laidByText := true, laidKinds := [.data], laidTests := true, laidLooks := .later }
def RoundQuotientsUptoCardSaid : Prop := Claim7.holds Tryz.pinned (.plain (OpenSpec.upto roundQuotientsSpec)) roundQuotientsUptoCard

/-- THE SECOND FORM's CARD OF 'gnomonlaw08.RoundNarrows'. -/
def roundNarrowsUptoCard : Claim7 := { stood := { row := roundNarrowsUptoRow, standIns := [], harness := (true, "21df1643601d31c50d63e328b6f50743a6d51252280f6510e9cb3302ce2455c0"), looks := false }, kinds := [], alts := [], laidByText := true, laidKinds := [.data], laidTests := true, laidLooks := .later }
def RoundNarrowsUptoCardSaid : Prop := Claim7.holds Tryz.pinned (.plain (OpenSpec.upto roundNarrowsSpec)) roundNarrowsUptoCard
end Rows
end Go.Proofs.YtelfmddcjlocpaaGreatDoor
