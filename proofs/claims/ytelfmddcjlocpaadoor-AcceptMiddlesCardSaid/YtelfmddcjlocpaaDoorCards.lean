/-
  DERIVED. GIVEN WITH THE SEED: THE CARDS: each row of YtelfmddcjlocpaaDoorRows.lean that lists a variable, with what it lists TIED to the program's text (the seventh form; the later family's looks); each row that meets fmt, with fmt's text TOLD by the authors' own Lean function (tested against real Go, not proved from fmt's source: count such statements apart). THE CARD IS WHAT COUNTS. Prove the row's statement (the work); the ties are given (YtelfmddcjlocpaaDoorTie.lean); close each card by the builder's one call (the guide's Derived/Test/ToyasCard.lean, 'card_holds'). Laid BY PROGRAM, IN A SANDBOX (cutbox-door.mjs). By AI agents, Wed Nov 11 2026. No macro, syntax, notation, axiom, sorry.
-/
import Derived.Test.YtelfmddcjlocpaaDoorRows
import GoSem.ClaimSeven
namespace Go.Proofs.YtelfmddcjlocpaaDoor
namespace Rows

/-- THE TIED CARD OF 'gnomonlaw08.RoundDecided'. -/
def roundDecidedCard : Claim7 := { stood := { row := roundDecidedRow, standIns := [], harness := (true, "5092d9a1c4431203413b04885905146f36974348f4d6473cecb0c37d6ede2254"), looks := false }, kinds := [], alts := [], laidByText := true, laidKinds := [.data], laidTests := true, laidLooks := .later }
def RoundDecidedCardSaid : Prop := Claim7.holds Tryd.pinned (.plain (OpenSpec.ofChange roundDecidedSpec)) roundDecidedCard

/-- THE TIED CARD OF 'gnomonlaw08.RoundInside'. -/
def roundInsideCard : Claim7 := { stood := { row := roundInsideRow, standIns := [], harness := (true, "5092d9a1c4431203413b04885905146f36974348f4d6473cecb0c37d6ede2254"), looks := false }, kinds := [], alts := [], laidByText := true, laidKinds := [.data], laidTests := true, laidLooks := .later }
def RoundInsideCardSaid : Prop := Claim7.holds Tryd.pinned (.plain (OpenSpec.ofChange roundInsideSpec)) roundInsideCard

/-- THE TIED CARD OF 'gnomonlaw08.RoundMeets'. -/
def roundMeetsCard : Claim7 := { stood := { row := roundMeetsRow, standIns := [], harness := (true, "5092d9a1c4431203413b04885905146f36974348f4d6473cecb0c37d6ede2254"), looks := false }, kinds := [], alts := [], laidByText := true, laidKinds := [.data], laidTests := true, laidLooks := .later }
def RoundMeetsCardSaid : Prop := Claim7.holds Tryd.pinned (.plain (OpenSpec.ofChange roundMeetsSpec)) roundMeetsCard

/-- THE TIED CARD OF 'gnomonlaw25.AcceptMiddles'. -/
def acceptMiddlesCard : Claim7 := { stood := { row := acceptMiddlesRow, standIns := [], harness := (true, "5092d9a1c4431203413b04885905146f36974348f4d6473cecb0c37d6ede2254"), looks := false }, kinds := [], alts := [], laidByText := true, laidKinds := [.data], laidTests := true, laidLooks := .later }
def AcceptMiddlesCardSaid : Prop := Claim7.holds Tryd.pinned (.plain (OpenSpec.ofChange acceptMiddlesSpec)) acceptMiddlesCard

/-- THE TIED CARD OF 'gnomonlaw25.AcceptRounds'. -/
def acceptRoundsCard : Claim7 := { stood := { row := acceptRoundsRow, standIns := [], harness := (true, "5092d9a1c4431203413b04885905146f36974348f4d6473cecb0c37d6ede2254"), looks := false }, kinds := [], alts := [], laidByText := true, laidKinds := [.data], laidTests := true, laidLooks := .later }
def AcceptRoundsCardSaid : Prop := Claim7.holds Tryd.pinned (.plain (OpenSpec.ofChange acceptRoundsSpec)) acceptRoundsCard

/-- THE SECOND FORM's CARD OF 'gnomonlaw08.RoundDecided'. -/
def roundDecidedUptoCard : Claim7 := { stood := { row := roundDecidedUptoRow, standIns := [], harness := (true, "5092d9a1c4431203413b04885905146f36974348f4d6473cecb0c37d6ede2254"), looks := false }, kinds := [], alts := [], laidByText := true, laidKinds := [.data], laidTests := true, laidLooks := .later }
def RoundDecidedUptoCardSaid : Prop := Claim7.holds Tryd.pinned (.plain (OpenSpec.upto roundDecidedSpec)) roundDecidedUptoCard

/-- THE SECOND FORM's CARD OF 'gnomonlaw08.RoundInside'. -/
def roundInsideUptoCard : Claim7 := { stood := { row := roundInsideUptoRow, standIns := [], harness := (true, "5092d9a1c4431203413b04885905146f36974348f4d6473cecb0c37d6ede2254"), looks := false }, kinds := [], alts := [], laidByText := true, laidKinds := [.data], laidTests := true, laidLooks := .later }
def RoundInsideUptoCardSaid : Prop := Claim7.holds Tryd.pinned (.plain (OpenSpec.upto roundInsideSpec)) roundInsideUptoCard

/-- THE SECOND FORM's CARD OF 'gnomonlaw08.RoundMeets'. -/
def roundMeetsUptoCard : Claim7 := { stood := { row := roundMeetsUptoRow, standIns := [], harness := (true, "5092d9a1c4431203413b04885905146f36974348f4d6473cecb0c37d6ede2254"), looks := false }, kinds := [], alts := [], laidByText := true, laidKinds := [.data], laidTests := true, laidLooks := .later }
def RoundMeetsUptoCardSaid : Prop := Claim7.holds Tryd.pinned (.plain (OpenSpec.upto roundMeetsSpec)) roundMeetsUptoCard

/-- THE SECOND FORM's CARD OF 'gnomonlaw25.AcceptMiddles'. -/
def acceptMiddlesUptoCard : Claim7 := { stood := { row := acceptMiddlesUptoRow, standIns := [], harness := (true, "5092d9a1c4431203413b04885905146f36974348f4d6473cecb0c37d6ede2254"), looks := false }, kinds := [], alts := [], laidByText := true, laidKinds := [.data], laidTests := true, laidLooks := .later }
def AcceptMiddlesUptoCardSaid : Prop := Claim7.holds Tryd.pinned (.plain (OpenSpec.upto acceptMiddlesSpec)) acceptMiddlesUptoCard

/-- THE SECOND FORM's CARD OF 'gnomonlaw25.AcceptRounds'. -/
def acceptRoundsUptoCard : Claim7 := { stood := { row := acceptRoundsUptoRow, standIns := [], harness := (true, "5092d9a1c4431203413b04885905146f36974348f4d6473cecb0c37d6ede2254"), looks := false }, kinds := [], alts := [], laidByText := true, laidKinds := [.data], laidTests := true, laidLooks := .later }
def AcceptRoundsUptoCardSaid : Prop := Claim7.holds Tryd.pinned (.plain (OpenSpec.upto acceptRoundsSpec)) acceptRoundsUptoCard
end Rows
end Go.Proofs.YtelfmddcjlocpaaDoor
