/-
  DERIVED. GIVEN WITH THE SEED: THE CARDS: each row of YtokoadgahflafaaGreatDoorRows.lean that lists a variable, with what it lists TIED to the program's text (the seventh form; the later family's looks); each row that meets fmt, with fmt's text TOLD by the authors' own Lean function (tested against real Go, not proved from fmt's source: count such statements apart). THE CARD IS WHAT COUNTS. Prove the row's statement (the work); the ties are given (YtokoadgahflafaaGreatDoorTie.lean); close each card by the builder's one call (the guide's Derived/Test/ToyasCard.lean, 'card_holds'). Laid BY PROGRAM, IN A SANDBOX (cutbox-door.mjs). By AI agents, Wed Nov 11 2026. No macro, syntax, notation, axiom, sorry.
-/
import Derived.Test.YtokoadgahflafaaGreatDoorRows
import GoSem.ClaimSeven
namespace Go.Proofs.YtokoadgahflafaaGreatDoor
namespace Rows

/-- THE TIED CARD OF 'gnomonlaw09.SoftPlays'. -/
def softPlaysCard : Claim7 := { stood := { row := softPlaysRow, standIns := [], harness := (true, "bafe33689b34d78ae120d0062ad8edeb40b0e5551c61ffe9af4bf68fb8e0be12"), looks := true }, kinds := [], alts := [], laidByText := true, laidKinds := [.data], laidTests := true, laidLooks := .later }
def SoftPlaysCardSaid : Prop := Claim7.holds Tryz.pinned (.plain (OpenSpec.ofChange softPlaysSpec)) softPlaysCard

/-- THE TIED CARD OF 'gnomonlaw09.SoftFixed'. -/
def softFixedCard : Claim7 := { stood := { row := softFixedRow, standIns := [], harness := (true, "bafe33689b34d78ae120d0062ad8edeb40b0e5551c61ffe9af4bf68fb8e0be12"), looks := true }, kinds := [], alts := [], laidByText := true, laidKinds := [.data], laidTests := true, laidLooks := .later }
def SoftFixedCardSaid : Prop := Claim7.holds Tryz.pinned (.plain (OpenSpec.ofChange softFixedSpec)) softFixedCard

/-- THE TIED CARD OF 'gnomonlaw09.SoftNearest'. -/
def softNearestCard : Claim7 := { stood := { row := softNearestRow, standIns := [], harness := (true, "bafe33689b34d78ae120d0062ad8edeb40b0e5551c61ffe9af4bf68fb8e0be12"), looks := true }, kinds := [], alts := [], laidByText := true, laidKinds := [.data], laidTests := true, laidLooks := .later }
def SoftNearestCardSaid : Prop := Claim7.holds Tryz.pinned (.plain (OpenSpec.ofChange softNearestSpec)) softNearestCard

/-- THE TIED CARD OF 'gnomonlaw09.SoftSterbenz'. -/
def softSterbenzCard : Claim7 := { stood := { row := softSterbenzRow, standIns := [], harness := (true, "bafe33689b34d78ae120d0062ad8edeb40b0e5551c61ffe9af4bf68fb8e0be12"), looks := true }, kinds := [], alts := [], laidByText := true, laidKinds := [.data], laidTests := true, laidLooks := .later }
def SoftSterbenzCardSaid : Prop := Claim7.holds Tryz.pinned (.plain (OpenSpec.ofChange softSterbenzSpec)) softSterbenzCard

/-- THE TIED CARD OF 'gnomonlaw09.SoftErrors'. -/
def softErrorsCard : Claim7 := { stood := { row := softErrorsRow, standIns := [], harness := (true, "bafe33689b34d78ae120d0062ad8edeb40b0e5551c61ffe9af4bf68fb8e0be12"), looks := true }, kinds := [], alts := [], laidByText := true, laidKinds := [.data], laidTests := true, laidLooks := .later }
def SoftErrorsCardSaid : Prop := Claim7.holds Tryz.pinned (.plain (OpenSpec.ofChange softErrorsSpec)) softErrorsCard

/-- THE TIED CARD OF 'gnomonlaw09.SoftOrders'. -/
def softOrdersCard : Claim7 := { stood := { row := softOrdersRow, standIns := [], harness := (true, "bafe33689b34d78ae120d0062ad8edeb40b0e5551c61ffe9af4bf68fb8e0be12"), looks := true }, kinds := [], alts := [], laidByText := true, laidKinds := [.data], laidTests := true, laidLooks := .later }
def SoftOrdersCardSaid : Prop := Claim7.holds Tryz.pinned (.plain (OpenSpec.ofChange softOrdersSpec)) softOrdersCard

/-- THE TIED CARD OF 'gnomonlaw09.SoftTwins'. -/
def softTwinsCard : Claim7 := { stood := { row := softTwinsRow, standIns := [], harness := (true, "bafe33689b34d78ae120d0062ad8edeb40b0e5551c61ffe9af4bf68fb8e0be12"), looks := true }, kinds := [], alts := [], laidByText := true, laidKinds := [.data], laidTests := true, laidLooks := .later }
def SoftTwinsCardSaid : Prop := Claim7.holds Tryz.pinned (.plain (OpenSpec.ofChange softTwinsSpec)) softTwinsCard

/-- THE TIED CARD OF 'gnomonlaw09.SoftRootOfSquare'. -/
def softRootOfSquareCard : Claim7 := { stood := { row := softRootOfSquareRow, standIns := [], harness := (true, "bafe33689b34d78ae120d0062ad8edeb40b0e5551c61ffe9af4bf68fb8e0be12"), looks := true }, kinds := [], alts := [], laidByText := true, laidKinds := [.data], laidTests := true, laidLooks := .later }
def SoftRootOfSquareCardSaid : Prop := Claim7.holds Tryz.pinned (.plain (OpenSpec.ofChange softRootOfSquareSpec)) softRootOfSquareCard

/-- THE TIED CARD OF 'gnomonlaw09.SoftMachine'. -/
def softMachineCard : Claim7 := { stood := { row := softMachineRow, standIns := [], harness := (true, "bafe33689b34d78ae120d0062ad8edeb40b0e5551c61ffe9af4bf68fb8e0be12"), looks := true }, kinds := [], alts := [], laidByText := true, laidKinds := [.data], laidTests := true, laidLooks := .later }
def SoftMachineCardSaid : Prop := Claim7.holds Tryz.pinned (.plain (OpenSpec.ofChange softMachineSpec)) softMachineCard

/-- THE TIED CARD OF 'gnomonlaw09.SoftThroughDouble'. -/
def softThroughDoubleCard : Claim7 := { stood := { row := softThroughDoubleRow, standIns := [], harness := (true, "bafe33689b34d78ae120d0062ad8edeb40b0e5551c61ffe9af4bf68fb8e0be12"), looks := true }, kinds := [], alts := [], laidByText := true, laidKinds := [.data], laidTests := true, laidLooks := .later }
def SoftThroughDoubleCardSaid : Prop := Claim7.holds Tryz.pinned (.plain (OpenSpec.ofChange softThroughDoubleSpec)) softThroughDoubleCard

/-- THE TIED CARD OF 'gnomonlaw19.EftSoft'. -/
def eftSoftCard : Claim7 := { stood := { row := eftSoftRow, standIns := [], harness := (true, "bafe33689b34d78ae120d0062ad8edeb40b0e5551c61ffe9af4bf68fb8e0be12"), looks := true }, kinds := [], alts := [], laidByText := true, laidKinds := [.data], laidTests := true, laidLooks := .later }
def EftSoftCardSaid : Prop := Claim7.holds Tryz.pinned (.plain (OpenSpec.ofChange eftSoftSpec)) eftSoftCard

/-- THE SECOND FORM's CARD OF 'gnomonlaw09.SoftPlays'. -/
def softPlaysUptoCard : Claim7 := { stood := { row := softPlaysUptoRow, standIns := [], harness := (true, "bafe33689b34d78ae120d0062ad8edeb40b0e5551c61ffe9af4bf68fb8e0be12"), looks := true }, kinds := [], alts := [], laidByText := true, laidKinds := [.data], laidTests := true, laidLooks := .later }
def SoftPlaysUptoCardSaid : Prop := Claim7.holds Tryz.pinned (.plain (OpenSpec.upto softPlaysSpec)) softPlaysUptoCard

/-- THE SECOND FORM's CARD OF 'gnomonlaw09.SoftFixed'. -/
def softFixedUptoCard : Claim7 := { stood := { row := softFixedUptoRow, standIns := [], harness := (true, "bafe33689b34d78ae120d0062ad8edeb40b0e5551c61ffe9af4bf68fb8e0be12"), looks := true }, kinds := [], alts := [], laidByText := true, laidKinds := [.data], laidTests := true, laidLooks := .later }
def SoftFixedUptoCardSaid : Prop := Claim7.holds Tryz.pinned (.plain (OpenSpec.upto softFixedSpec)) softFixedUptoCard

/-- THE SECOND FORM's CARD OF 'gnomonlaw09.SoftNearest'. -/
def softNearestUptoCard : Claim7 := { stood := { row := softNearestUptoRow, standIns := [], harness := (true, "bafe33689b34d78ae120d0062ad8edeb40b0e5551c61ffe9af4bf68fb8e0be12"), looks := true }, kinds := [], alts := [], laidByText := true, laidKinds := [.data], laidTests := true, laidLooks := .later }
def SoftNearestUptoCardSaid : Prop := Claim7.holds Tryz.pinned (.plain (OpenSpec.upto softNearestSpec)) softNearestUptoCard

/-- THE SECOND FORM's CARD OF 'gnomonlaw09.SoftSterbenz'. -/
def softSterbenzUptoCard : Claim7 := { stood := { row := softSterbenzUptoRow, standIns := [], harness := (true, "bafe33689b34d78ae120d0062ad8edeb40b0e5551c61ffe9af4bf68fb8e0be12"), looks := true }, kinds := [], alts := [], laidByText := true, laidKinds := [.data], laidTests := true, laidLooks := .later }
def SoftSterbenzUptoCardSaid : Prop := Claim7.holds Tryz.pinned (.plain (OpenSpec.upto softSterbenzSpec)) softSterbenzUptoCard

/-- THE SECOND FORM's CARD OF 'gnomonlaw09.SoftErrors'. -/
def softErrorsUptoCard : Claim7 := { stood := { row := softErrorsUptoRow, standIns := [], harness := (true, "bafe33689b34d78ae120d0062ad8edeb40b0e5551c61ffe9af4bf68fb8e0be12"), looks := true }, kinds := [], alts := [], laidByText := true, laidKinds := [.data], laidTests := true, laidLooks := .later }
def SoftErrorsUptoCardSaid : Prop := Claim7.holds Tryz.pinned (.plain (OpenSpec.upto softErrorsSpec)) softErrorsUptoCard

/-- THE SECOND FORM's CARD OF 'gnomonlaw09.SoftOrders'. -/
def softOrdersUptoCard : Claim7 := { stood := { row := softOrdersUptoRow, standIns := [], harness := (true, "bafe33689b34d78ae120d0062ad8edeb40b0e5551c61ffe9af4bf68fb8e0be12"), looks := true }, kinds := [], alts := [], laidByText := true, laidKinds := [.data], laidTests := true, laidLooks := .later }
def SoftOrdersUptoCardSaid : Prop := Claim7.holds Tryz.pinned (.plain (OpenSpec.upto softOrdersSpec)) softOrdersUptoCard

/-- THE SECOND FORM's CARD OF 'gnomonlaw09.SoftTwins'. -/
def softTwinsUptoCard : Claim7 := { stood := { row := softTwinsUptoRow, standIns := [], harness := (true, "bafe33689b34d78ae120d0062ad8edeb40b0e5551c61ffe9af4bf68fb8e0be12"), looks := true }, kinds := [], alts := [], laidByText := true, laidKinds := [.data], laidTests := true, laidLooks := .later }
def SoftTwinsUptoCardSaid : Prop := Claim7.holds Tryz.pinned (.plain (OpenSpec.upto softTwinsSpec)) softTwinsUptoCard

/-- THE SECOND FORM's CARD OF 'gnomonlaw09.SoftRootOfSquare'. -/
def softRootOfSquareUptoCard : Claim7 := { stood := { row := softRootOfSquareUptoRow, standIns := [], harness := (true, "bafe33689b34d78ae120d0062ad8edeb40b0e5551c61ffe9af4bf68fb8e0be12"), looks := true }, kinds := [], alts := [], laidByText := true, laidKinds := [.data], laidTests := true, laidLooks := .later }
def SoftRootOfSquareUptoCardSaid : Prop := Claim7.holds Tryz.pinned (.plain (OpenSpec.upto softRootOfSquareSpec)) softRootOfSquareUptoCard

/-- THE SECOND FORM's CARD OF 'gnomonlaw09.SoftMachine'. -/
def softMachineUptoCard : Claim7 := { stood := { row := softMachineUptoRow, standIns := [], harness := (true, "bafe33689b34d78ae120d0062ad8edeb40b0e5551c61ffe9af4bf68fb8e0be12"), looks := true }, kinds := [], alts := [], laidByText := true, laidKinds := [.data], laidTests := true, laidLooks := .later }
def SoftMachineUptoCardSaid : Prop := Claim7.holds Tryz.pinned (.plain (OpenSpec.upto softMachineSpec)) softMachineUptoCard

/-- THE SECOND FORM's CARD OF 'gnomonlaw09.SoftThroughDouble'. -/
def softThroughDoubleUptoCard : Claim7 := { stood := { row := softThroughDoubleUptoRow, standIns := [], harness := (true, "bafe33689b34d78ae120d0062ad8edeb40b0e5551c61ffe9af4bf68fb8e0be12"), looks := true }, kinds := [], alts := [], laidByText := true, laidKinds := [.data], laidTests := true, laidLooks := .later }
def SoftThroughDoubleUptoCardSaid : Prop := Claim7.holds Tryz.pinned (.plain (OpenSpec.upto softThroughDoubleSpec)) softThroughDoubleUptoCard

/-- THE SECOND FORM's CARD OF 'gnomonlaw19.EftSoft'. -/
def eftSoftUptoCard : Claim7 := { stood := { row := eftSoftUptoRow, standIns := [], harness := (true, "bafe33689b34d78ae120d0062ad8edeb40b0e5551c61ffe9af4bf68fb8e0be12"), looks := true }, kinds := [], alts := [], laidByText := true, laidKinds := [.data], laidTests := true, laidLooks := .later }
def EftSoftUptoCardSaid : Prop := Claim7.holds Tryz.pinned (.plain (OpenSpec.upto eftSoftSpec)) eftSoftUptoCard
end Rows
end Go.Proofs.YtokoadgahflafaaGreatDoor
