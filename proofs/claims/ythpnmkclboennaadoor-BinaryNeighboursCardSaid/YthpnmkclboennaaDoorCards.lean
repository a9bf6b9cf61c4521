/-
  DERIVED. GIVEN WITH THE SEED: THE CARDS: each row of YthpnmkclboennaaDoorRows.lean that lists a variable, with what it lists TIED to the program's text (the seventh form; the later family's looks); each row that meets fmt, with fmt's text TOLD by the authors' own Lean function (tested against real Go, not proved from fmt's source: count such statements apart). THE CARD IS WHAT COUNTS. Prove the row's statement (the work); the ties are given (YthpnmkclboennaaDoorTie.lean); close each card by the builder's one call (the guide's Derived/Test/ToyasCard.lean, 'card_holds'). Laid BY PROGRAM, IN A SANDBOX (cutbox-door.mjs). By AI agents, Wed Nov 11 2026. No macro, syntax, notation, axiom, sorry.
-/
import Derived.Test.YthpnmkclboennaaDoorRows
import GoSem.ClaimSeven
namespace Go.Proofs.YthpnmkclboennaaDoor
namespace Rows

/-- THE TIED CARD OF 'gnomonlaw07.BinaryKeeps'. -/
def binaryKeepsCard : Claim7 := { stood := { row := binaryKeepsRow, standIns := [], harness := (true, "957ecd18136191d2363e95cc2701fde78b2ce7944aa96bfe9fd6d922e883b20c"), looks := false }, kinds := [], alts := [], laidByText := true, laidKinds := [.data], laidTests := true, laidLooks := .later }
def BinaryKeepsCardSaid : Prop := Claim7.holds Tryd.pinned (.plain (OpenSpec.ofChange binaryKeepsSpec)) binaryKeepsCard

/-- THE TIED CARD OF 'gnomonlaw07.BinaryWide'. -/
def binaryWideCard : Claim7 := { stood := { row := binaryWideRow, standIns := [], harness := (true, "957ecd18136191d2363e95cc2701fde78b2ce7944aa96bfe9fd6d922e883b20c"), looks := false }, kinds := [], alts := [], laidByText := true, laidKinds := [.data], laidTests := true, laidLooks := .later }
def BinaryWideCardSaid : Prop := Claim7.holds Tryd.pinned (.plain (OpenSpec.ofChange binaryWideSpec)) binaryWideCard

/-- THE TIED CARD OF 'gnomonlaw07.BinaryRejoins'. -/
def binaryRejoinsCard : Claim7 := { stood := { row := binaryRejoinsRow, standIns := [], harness := (true, "957ecd18136191d2363e95cc2701fde78b2ce7944aa96bfe9fd6d922e883b20c"), looks := false }, kinds := [], alts := [], laidByText := true, laidKinds := [.data], laidTests := true, laidLooks := .later }
def BinaryRejoinsCardSaid : Prop := Claim7.holds Tryd.pinned (.plain (OpenSpec.ofChange binaryRejoinsSpec)) binaryRejoinsCard

/-- THE TIED CARD OF 'gnomonlaw07.BinaryParts'. -/
def binaryPartsCard : Claim7 := { stood := { row := binaryPartsRow, standIns := [], harness := (true, "957ecd18136191d2363e95cc2701fde78b2ce7944aa96bfe9fd6d922e883b20c"), looks := false }, kinds := [], alts := [], laidByText := true, laidKinds := [.data], laidTests := true, laidLooks := .later }
def BinaryPartsCardSaid : Prop := Claim7.holds Tryd.pinned (.plain (OpenSpec.ofChange binaryPartsSpec)) binaryPartsCard

/-- THE TIED CARD OF 'gnomonlaw07.BinarySteps'. -/
def binaryStepsCard : Claim7 := { stood := { row := binaryStepsRow, standIns := [], harness := (true, "957ecd18136191d2363e95cc2701fde78b2ce7944aa96bfe9fd6d922e883b20c"), looks := false }, kinds := [], alts := [], laidByText := true, laidKinds := [.data], laidTests := true, laidLooks := .later }
def BinaryStepsCardSaid : Prop := Claim7.holds Tryd.pinned (.plain (OpenSpec.ofChange binaryStepsSpec)) binaryStepsCard

/-- THE TIED CARD OF 'gnomonlaw07.BinaryMids'. -/
def binaryMidsCard : Claim7 := { stood := { row := binaryMidsRow, standIns := [], harness := (true, "957ecd18136191d2363e95cc2701fde78b2ce7944aa96bfe9fd6d922e883b20c"), looks := false }, kinds := [], alts := [], laidByText := true, laidKinds := [.data], laidTests := true, laidLooks := .later }
def BinaryMidsCardSaid : Prop := Claim7.holds Tryd.pinned (.plain (OpenSpec.ofChange binaryMidsSpec)) binaryMidsCard

/-- THE TIED CARD OF 'gnomonlaw07.BinaryWidens'. -/
def binaryWidensCard : Claim7 := { stood := { row := binaryWidensRow, standIns := [], harness := (true, "957ecd18136191d2363e95cc2701fde78b2ce7944aa96bfe9fd6d922e883b20c"), looks := false }, kinds := [], alts := [], laidByText := true, laidKinds := [.data], laidTests := true, laidLooks := .later }
def BinaryWidensCardSaid : Prop := Claim7.holds Tryd.pinned (.plain (OpenSpec.ofChange binaryWidensSpec)) binaryWidensCard

/-- THE TIED CARD OF 'gnomonlaw07.BinaryNeighbours'. -/
def binaryNeighboursCard : Claim7 := { stood := { row := binaryNeighboursRow, standIns := [], harness := (true, "957ecd18136191d2363e95cc2701fde78b2ce7944aa96bfe9fd6d922e883b20c"), looks := false }, kinds := [], alts := [], laidByText := true, laidKinds := [.data], laidTests := true, laidLooks := .later }
def BinaryNeighboursCardSaid : Prop := Claim7.holds Tryd.pinned (.plain (OpenSpec.ofChange binaryNeighboursSpec)) binaryNeighboursCard

/-- THE TIED CARD OF 'gnomonlaw07.BinaryMiddles'. -/
def binaryMiddlesCard : Claim7 := { stood := { row := binaryMiddlesRow, standIns := [], harness := (true, "957ecd18136191d2363e95cc2701fde78b2ce7944aa96bfe9fd6d922e883b20c"), looks := false }, kinds := [], alts := [], laidByText := true, laidKinds := [.data], laidTests := true, laidLooks := .later }
def BinaryMiddlesCardSaid : Prop := Claim7.holds Tryd.pinned (.plain (OpenSpec.ofChange binaryMiddlesSpec)) binaryMiddlesCard

/-- THE SECOND FORM's CARD OF 'gnomonlaw07.BinaryKeeps'. -/
def binaryKeepsUptoCard : Claim7 := { stood := { row := binaryKeepsUptoRow, standIns := [], harness := (true, "957ecd18136191d2363e95cc2701fde78b2ce7944aa96bfe9fd6d922e883b20c"), looks := false }, kinds := [], alts := [], laidByText := true, laidKinds := [.data], laidTests := true, laidLooks := .later }
def BinaryKeepsUptoCardSaid : Prop := Claim7.holds Tryd.pinned (.plain (OpenSpec.upto binaryKeepsSpec)) binaryKeepsUptoCard

/-- THE SECOND FORM's CARD OF 'gnomonlaw07.BinaryWide'. -/
def binaryWideUptoCard : Claim7 := { stood := { row := binaryWideUptoRow, standIns := [], harness := (true, "957ecd18136191d2363e95cc2701fde78b2ce7944aa96bfe9fd6d922e883b20c"), looks := false }, kinds := [], alts := [], laidByText := true, laidKinds := [.data], laidTests := true, laidLooks := .later }
def BinaryWideUptoCardSaid : Prop := Claim7.holds Tryd.pinned (.plain (OpenSpec.upto binaryWideSpec)) binaryWideUptoCard

/-- THE SECOND FORM's CARD OF 'gnomonlaw07.BinaryRejoins'. -/
def binaryRejoinsUptoCard : Claim7 := { stood := { row := binaryRejoinsUptoRow, standIns := [], harness := (true, "957ecd18136191d2363e95cc2701fde78b2ce7944aa96bfe9fd6d922e883b20c"), looks := false }, kinds := [], alts := [], laidByText := true, laidKinds := [.data], laidTests := true, laidLooks := .later }
def BinaryRejoinsUptoCardSaid : Prop := Claim7.holds Tryd.pinned (.plain (OpenSpec.upto binaryRejoinsSpec)) binaryRejoinsUptoCard

/-- THE SECOND FORM's CARD OF 'gnomonlaw07.BinaryParts'. -/
def binaryPartsUptoCard : Claim7 := { stood := { row := binaryPartsUptoRow, standIns := [], harness := (true, "957ecd18136191d2363e95cc2701fde78b2ce7944aa96bfe9fd6d922e883b20c"), looks := false }, kinds := [], alts := [], laidByText := true, laidKinds := [.data], laidTests := true, laidLooks := .later }
def BinaryPartsUptoCardSaid : Prop := Claim7.holds Tryd.pinned (.plain (OpenSpec.upto binaryPartsSpec)) binaryPartsUptoCard

/-- THE SECOND FORM's CARD OF 'gnomonlaw07.BinarySteps'. -/
def binaryStepsUptoCard : Claim7 := { stood := { row := binaryStepsUptoRow, standIns := [], harness := (true, "957ecd18136191d2363e95cc2701fde78b2ce7944aa96bfe9fd6d922e883b20c"), looks := false }, kinds := [], alts := [], laidByText := true, laidKinds := [.data], laidTests := true, laidLooks := .later }
def BinaryStepsUptoCardSaid : Prop := Claim7.holds Tryd.pinned (.plain (OpenSpec.upto binaryStepsSpec)) binaryStepsUptoCard

/-- THE SECOND FORM's CARD OF 'gnomonlaw07.BinaryMids'. -/
def binaryMidsUptoCard : Claim7 := { stood := { row := binaryMidsUptoRow, standIns := [], harness := (true, "957ecd18136191d2363e95cc2701fde78b2ce7944aa96bfe9fd6d922e883b20c"), looks := false }, kinds := [], alts := [], laidByText := true, laidKinds := [.data], laidTests := true, laidLooks := .later }
def BinaryMidsUptoCardSaid : Prop := Claim7.holds Tryd.pinned (.plain (OpenSpec.upto binaryMidsSpec)) binaryMidsUptoCard

/-- THE SECOND FORM's CARD OF 'gnomonlaw07.BinaryWidens'. -/
def binaryWidensUptoCard : Claim7 := { stood := { row := binaryWidensUptoRow, standIns := [], harness := (true, "957ecd18136191d2363e95cc2701fde78b2ce7944aa96bfe9fd6d922e883b20c"), looks := false }, kinds := [], alts := [], laidByText := true, laidKinds := [.data], laidTests := true, laidLooks := .later }
def BinaryWidensUptoCardSaid : Prop := Claim7.holds Tryd.pinned (.plain (OpenSpec.upto binaryWidensSpec)) binaryWidensUptoCard

/-- THE SECOND FORM's CARD OF 'gnomonlaw07.BinaryNeighbours'. -/
def binaryNeighboursUptoCard : Claim7 := { stood := { row := binaryNeighboursUptoRow, standIns := [], harness := (true, "957ecd18136191d2363e95cc2701fde78b2ce7944aa96bfe9fd6d922e883b20c"), looks := false }, kinds := [], alts := [], laidByText := true, laidKinds := [.data], laidTests := true, laidLooks := .later }
def BinaryNeighboursUptoCardSaid : Prop := Claim7.holds Tryd.pinned (.plain (OpenSpec.upto binaryNeighboursSpec)) binaryNeighboursUptoCard

/-- THE SECOND FORM's CARD OF 'gnomonlaw07.BinaryMiddles'. -/
def binaryMiddlesUptoCard : Claim7 := { stood := { row := binaryMiddlesUptoRow, standIns := [], harness := (true, "957ecd18136191d2363e95cc2701fde78b2ce7944aa96bfe9fd6d922e883b20c"), looks := false }, kinds := [], alts := [], laidByText := true, laidKinds := [.data], laidTests := true, laidLooks := .later }
def BinaryMiddlesUptoCardSaid : Prop := Claim7.holds Tryd.pinned (.plain (OpenSpec.upto binaryMiddlesSpec)) binaryMiddlesUptoCard
end Rows
end Go.Proofs.YthpnmkclboennaaDoor
