/-
  DERIVED. GIVEN WITH THE SEED: THE CARDS: each row of YtbfahgbhbhnbnaaDoorRows.lean that lists a variable, with what it lists TIED to the program's text (the seventh form; the later family's looks); each row that meets fmt, with fmt's text TOLD by the authors' own Lean function (tested against real Go, not proved from fmt's source: count such statements apart). THE CARD IS WHAT COUNTS. Prove the row's statement (the work); the ties are given (YtbfahgbhbhnbnaaDoorTie.lean); close each card by the builder's one call (the guide's Derived/Test/ToyasCard.lean, 'card_holds'). Laid BY PROGRAM, IN A SANDBOX (cutbox-door.mjs). By AI agents, Wed Nov 11 2026. No macro, syntax, notation, axiom, sorry.
-/
import Derived.Test.YtbfahgbhbhnbnaaDoorRows
import GoSem.ClaimSeven
namespace Go.Proofs.YtbfahgbhbhnbnaaDoor
namespace Rows

/-- THE TIED CARD OF 'gnomonlaw07.BinaryMiddles'. -/
def binaryMiddlesCard : Claim7 := { stood := { row := binaryMiddlesRow, standIns := [], harness := (true, "509820e89bcac6811b33fe0af0ef68393d9dcc08ca2e0b7e9dbad70c7e44b01e"), looks := false }, kinds := [], alts := [], laidByText := true, laidKinds := [.data], laidTests := true, laidLooks := .later }
def BinaryMiddlesCardSaid : Prop := Claim7.holds Tryd.pinned (.plain (OpenSpec.ofChange binaryMiddlesSpec)) binaryMiddlesCard

/-- THE TIED CARD OF 'gnomonlaw07.BinaryKeeps'. -/
def binaryKeepsCard : Claim7 := { stood := { row := binaryKeepsRow, standIns := [], harness := (true, "509820e89bcac6811b33fe0af0ef68393d9dcc08ca2e0b7e9dbad70c7e44b01e"), looks := false }, kinds := [], alts := [], laidByText := true, laidKinds := [.data], laidTests := true, laidLooks := .later }
def BinaryKeepsCardSaid : Prop := Claim7.holds Tryd.pinned (.plain (OpenSpec.ofChange binaryKeepsSpec)) binaryKeepsCard

/-- THE SECOND FORM's CARD OF 'gnomonlaw07.BinaryMiddles'. -/
def binaryMiddlesUptoCard : Claim7 := { stood := { row := binaryMiddlesUptoRow, standIns := [], harness := (true, "509820e89bcac6811b33fe0af0ef68393d9dcc08ca2e0b7e9dbad70c7e44b01e"), looks := false }, kinds := [], alts := [], laidByText := true, laidKinds := [.data], laidTests := true, laidLooks := .later }
def BinaryMiddlesUptoCardSaid : Prop := Claim7.holds Tryd.pinned (.plain (OpenSpec.upto binaryMiddlesSpec)) binaryMiddlesUptoCard

/-- THE SECOND FORM's CARD OF 'gnomonlaw07.BinaryKeeps'. -/
def binaryKeepsUptoCard : Claim7 := { stood := { row := binaryKeepsUptoRow, standIns := [], harness := (true, "509820e89bcac6811b33fe0af0ef68393d9dcc08ca2e0b7e9dbad70c7e44b01e"), looks := false }, kinds := [], alts := [], laidByText := true, laidKinds := [.data], laidTests := true, laidLooks := .later }
def BinaryKeepsUptoCardSaid : Prop := Claim7.holds Tryd.pinned (.plain (OpenSpec.upto binaryKeepsSpec)) binaryKeepsUptoCard
end Rows
end Go.Proofs.YtbfahgbhbhnbnaaDoor
