/-
  DERIVED. GIVEN WITH THE SEED: THE CARDS: each row of YtapikmfckpgjoaaGreatDoorRows.lean that lists a variable, with what it lists TIED to the program's text (the seventh form; the later family's looks); each row that meets fmt, with fmt's text TOLD by the authors' own Lean function (tested against real Go, not proved from fmt's source: count such statements apart). THE CARD IS WHAT COUNTS. Prove the row's statement (the work); the ties are given (YtapikmfckpgjoaaGreatDoorTie.lean); close each card by the builder's one call (the guide's Derived/Test/ToyasCard.lean, 'card_holds'). Laid BY PROGRAM, IN A SANDBOX (cutbox-door.mjs). By AI agents, Wed Nov 11 2026. No macro, syntax, notation, axiom, sorry.
-/
import Derived.Test.YtapikmfckpgjoaaGreatDoorRows
import GoSem.ClaimSeven
namespace Go.Proofs.YtapikmfckpgjoaaGreatDoor
namespace Rows

/-- THE TIED CARD OF 'gnomonlaw20.DdForms'. -/
def ddFormsCard : Claim7 := { stood := { row := ddFormsRow, standIns := [], harness := (true, "80d4234036759cb0107aa1ed3aeb05ab7a450d8248d31fbf3720e9775ee4c712"), looks := false }, kinds := [], alts := [], laidByText := true, laidKinds := [.data], laidTests := true, laidLooks := .later }
def DdFormsCardSaid : Prop := Claim7.holds Tryz.pinned (.plain (OpenSpec.ofChange ddFormsSpec)) ddFormsCard

/-- THE TIED CARD OF 'gnomonlaw20.DdSums'. -/
def ddSumsCard : Claim7 := { stood := { row := ddSumsRow, standIns := [], harness := (true, "80d4234036759cb0107aa1ed3aeb05ab7a450d8248d31fbf3720e9775ee4c712"), looks := false }, kinds := [], alts := [], laidByText := true, laidKinds := [.data], laidTests := true, laidLooks := .later }
def DdSumsCardSaid : Prop := Claim7.holds Tryz.pinned (.plain (OpenSpec.ofChange ddSumsSpec)) ddSumsCard

/-- THE TIED CARD OF 'gnomonlaw20.DdMuls'. -/
def ddMulsCard : Claim7 := { stood := { row := ddMulsRow, standIns := [], harness := (true, "80d4234036759cb0107aa1ed3aeb05ab7a450d8248d31fbf3720e9775ee4c712"), looks := false }, kinds := [], alts := [], laidByText := true, laidKinds := [.data], laidTests := true, laidLooks := .later }
def DdMulsCardSaid : Prop := Claim7.holds Tryz.pinned (.plain (OpenSpec.ofChange ddMulsSpec)) ddMulsCard

/-- THE TIED CARD OF 'gnomonlaw20.DdDivs'. -/
def ddDivsCard : Claim7 := { stood := { row := ddDivsRow, standIns := [], harness := (true, "80d4234036759cb0107aa1ed3aeb05ab7a450d8248d31fbf3720e9775ee4c712"), looks := false }, kinds := [], alts := [], laidByText := true, laidKinds := [.data], laidTests := true, laidLooks := .later }
def DdDivsCardSaid : Prop := Claim7.holds Tryz.pinned (.plain (OpenSpec.ofChange ddDivsSpec)) ddDivsCard

/-- THE TIED CARD OF 'gnomonlaw20.DdFloats'. -/
def ddFloatsCard : Claim7 := { stood := { row := ddFloatsRow, standIns := [], harness := (true, "80d4234036759cb0107aa1ed3aeb05ab7a450d8248d31fbf3720e9775ee4c712"), looks := false }, kinds := [], alts := [], laidByText := true, laidKinds := [.data], laidTests := true, laidLooks := .later }
def DdFloatsCardSaid : Prop := Claim7.holds Tryz.pinned (.plain (OpenSpec.ofChange ddFloatsSpec)) ddFloatsCard

/-- THE TIED CARD OF 'gnomonlaw20.DdByDyadics'. -/
def ddByDyadicsCard : Claim7 := { stood := { row := ddByDyadicsRow, standIns := [], harness := (true, "80d4234036759cb0107aa1ed3aeb05ab7a450d8248d31fbf3720e9775ee4c712"), looks := false }, kinds := [], alts := [], laidByText := true, laidKinds := [.data], laidTests := true, laidLooks := .later }
def DdByDyadicsCardSaid : Prop := Claim7.holds Tryz.pinned (.plain (OpenSpec.ofChange ddByDyadicsSpec)) ddByDyadicsCard

/-- THE SECOND FORM's CARD OF 'gnomonlaw20.DdForms'. -/
def ddFormsUptoCard : Claim7 := { stood := { row := ddFormsUptoRow, standIns := [], harness := (true, "80d4234036759cb0107aa1ed3aeb05ab7a450d8248d31fbf3720e9775ee4c712"), looks := false }, kinds := [], alts := [], laidByText := true, laidKinds := [.data], laidTests := true, laidLooks := .later }
def DdFormsUptoCardSaid : Prop := Claim7.holds Tryz.pinned (.plain (OpenSpec.upto ddFormsSpec)) ddFormsUptoCard

/-- THE SECOND FORM's CARD OF 'gnomonlaw20.DdSums'. -/
def ddSumsUptoCard : Claim7 := { stood := { row := ddSumsUptoRow, standIns := [], harness := (true, "80d4234036759cb0107aa1ed3aeb05ab7a450d8248d31fbf3720e9775ee4c712"), looks := false }, kinds := [], alts := [], laidByText := true, laidKinds := [.data], laidTests := true, laidLooks := .later }
def DdSumsUptoCardSaid : Prop := Claim7.holds Tryz.pinned (.plain (OpenSpec.upto ddSumsSpec)) ddSumsUptoCard

/-- THE SECOND FORM's CARD OF 'gnomonlaw20.DdMuls'. -/
def ddMulsUptoCard : Claim7 := { stood := { row := ddMulsUptoRow, standIns := [], harness := (true, "80d4234036759cb0107aa1ed3aeb05ab7a450d8248d31fbf3720e9775ee4c712"), looks := false }, kinds := [], alts := [], laidByText := true, laidKinds := [.data], laidTests := true, laidLooks := .later }
def DdMulsUptoCardSaid : Prop := Claim7.holds Tryz.pinned (.plain (OpenSpec.upto ddMulsSpec)) ddMulsUptoCard

/-- THE SECOND FORM's CARD OF 'gnomonlaw20.DdDivs'. -/
def ddDivsUptoCard : Claim7 := { stood := { row := ddDivsUptoRow, standIns := [], harness := (true, "80d4234036759cb0107aa1ed3aeb05ab7a450d8248d31fbf3720e9775ee4c712"), looks := false }, kinds := [], alts := [], laidByText := true, laidKinds := [.data], laidTests := true, laidLooks := .later }
def DdDivsUptoCardSaid : Prop := Claim7.holds Tryz.pinned (.plain (OpenSpec.upto ddDivsSpec)) ddDivsUptoCard

/-- THE SECOND FORM's CARD OF 'gnomonlaw20.DdFloats'. -/
def ddFloatsUptoCard : Claim7 := { stood := { row := ddFloatsUptoRow, standIns := [], harness := (true, "80d4234036759cb0107aa1ed3aeb05ab7a450d8248d31fbf3720e9775ee4c712"), looks := false }, kinds := [], alts := [], laidByText := true, laidKinds := [.data], laidTests := true, laidLooks := .later }
def DdFloatsUptoCardSaid : Prop := Claim7.holds Tryz.pinned (.plain (OpenSpec.upto ddFloatsSpec)) ddFloatsUptoCard

/-- THE SECOND FORM's CARD OF 'gnomonlaw20.DdByDyadics'. -/
def ddByDyadicsUptoCard : Claim7 := { stood := { row := ddByDyadicsUptoRow, standIns := [], harness := (true, "80d4234036759cb0107aa1ed3aeb05ab7a450d8248d31fbf3720e9775ee4c712"), looks := false }, kinds := [], alts := [], laidByText := true, laidKinds := [.data], laidTests := true, laidLooks := .later }
def DdByDyadicsUptoCardSaid : Prop := Claim7.holds Tryz.pinned (.plain (OpenSpec.upto ddByDyadicsSpec)) ddByDyadicsUptoCard
end Rows
end Go.Proofs.YtapikmfckpgjoaaGreatDoor
