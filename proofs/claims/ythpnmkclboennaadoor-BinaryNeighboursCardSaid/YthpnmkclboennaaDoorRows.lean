/-
  NARROWER THAN 'FOR EVERY INPUT', by the rows' own cells (each row's printed sentence says how): BinaryKeeps: laid · BinaryWide: laid · BinaryRejoins: laid · BinaryParts: laid · BinarySteps: laid · BinaryMids: laid · BinaryWidens: laid · BinaryNeighbours: laid · BinaryMiddles: laid.
  DERIVED. THE GIVEN ROWS OF THIS SEAT. 9 by the template 'for every input the law returns true; each argument reads behind the call as it read before'; 0 by the template 'total and deterministic' (their statements: YthpnmkclboennaaDoorTotals.lean).
  GIVEN WITH THE SEED: the statements are not yours to turn. If you find one false, say at which input.
  Laid BY PROGRAM, IN A SANDBOX (cutbox-rows.mjs): the forced cells as the released guide's own fill.sh prints them over the translation 35b791e642eecac9… (all of the seat's roots in one cut). By AI agents, Wed Nov 11 2026. No macro, syntax, notation, axiom, sorry.
-/
import Derived.Test.YthpnmkclboennaaDoorChecked
import GoSem.Claim
import GoSem.ClaimJoined
import GoSem.ClaimMapViews
import Derived.JoinedTies
import Derived.KernelRfl
namespace Go.Proofs.YthpnmkclboennaaDoor
/- THE CELL 'sum', in the pinned program and in every row, IS THE sha256 OF THE DUMP (.gsa) THAT YthpnmkclboennaaDoorProg.lean LOADS. Nothing in Lean hashes anything: it is a label: what it is worth is what the hold of that sum in a sandbox is worth. -/
noncomputable def Tryd.pinned : Pinned := { name := "ythpnmkclboennaadoor", sum := "35b791e642eecac9276da3c5915c4625a9b27e8a29fb94491b7b01d6e0215ed8", checked := Tryd.checked }
namespace Rows
def none {H : Type} : Left H := { results := [], args := [] }

/- WHAT THE LISTED PACKAGE-LEVEL VARIABLES READ AS WHEN THE CALL BEGINS. Each datum BY PROGRAM (the guide's laid-datum.mjs) off the statement by which the dump's own 'gosem.cut.vars' lays the variable. In a bare row this is a premise. The card (YthpnmkclboennaaDoorCards.lean) ties it to the program's text. -/
def laid_math_bits_deBruijn64tab {H : Type} : DataW H := .agg [.lit (.int .u8 0), .lit (.int .u8 1), .lit (.int .u8 56), .lit (.int .u8 2), .lit (.int .u8 57), .lit (.int .u8 49), .lit (.int .u8 28), .lit (.int .u8 3), .lit (.int .u8 61), .lit (.int .u8 58), .lit (.int .u8 42), .lit (.int .u8 50), .lit (.int .u8 38), .lit (.int .u8 29), .lit (.int .u8 17), .lit (.int .u8 4), .lit (.int .u8 62), .lit (.int .u8 47), .lit (.int .u8 59), .lit (.int .u8 36), .lit (.int .u8 45), .lit (.int .u8 43), .lit (.int .u8 51), .lit (.int .u8 22), .lit (.int .u8 53), .lit (.int .u8 39), .lit (.int .u8 33), .lit (.int .u8 30), .lit (.int .u8 24), .lit (.int .u8 18), .lit (.int .u8 12), .lit (.int .u8 5), .lit (.int .u8 63), .lit (.int .u8 55), .lit (.int .u8 48), .lit (.int .u8 27), .lit (.int .u8 60), .lit (.int .u8 41), .lit (.int .u8 37), .lit (.int .u8 16), .lit (.int .u8 46), .lit (.int .u8 35), .lit (.int .u8 44), .lit (.int .u8 21), .lit (.int .u8 52), .lit (.int .u8 32), .lit (.int .u8 23), .lit (.int .u8 11), .lit (.int .u8 54), .lit (.int .u8 26), .lit (.int .u8 40), .lit (.int .u8 15), .lit (.int .u8 34), .lit (.int .u8 20), .lit (.int .u8 31), .lit (.int .u8 10), .lit (.int .u8 25), .lit (.int .u8 14), .lit (.int .u8 19), .lit (.int .u8 9), .lit (.int .u8 13), .lit (.int .u8 8), .lit (.int .u8 7), .lit (.int .u8 6)]

/-- 'gnomonlaw07.BinaryKeeps': WHATEVER THE INPUT: true; the input reads as it did. -/
def binaryKeepsSpec : ChangeSpec := { name := "binaryKeeps", fn := fun _ => fun
  | [d1, d2, d3] => { results := [.lit (.bool true)], args := [d1, d2, d3] }
  | _ => none }
def binaryKeepsRow : OpenClaim := { program := "ythpnmkclboennaadoor", sum := "35b791e642eecac9276da3c5915c4625a9b27e8a29fb94491b7b01d6e0215ed8", func := "gnomon/gnomonlaw07.BinaryKeeps", spec := "binaryKeeps", named := ["math/bits.deBruijn64tab"], apart := false, laid := [("math/bits.deBruijn64tab", laid_math_bits_deBruijn64tab)] }
def BinaryKeepsSaid : Prop := binaryKeepsRow.holds Tryd.pinned (OpenSpec.ofChange binaryKeepsSpec)

/-- ITS FALSE NEIGHBOUR: 'it returns false'. Refute it at one input. -/
def binaryKeepsWrong : ChangeSpec := { name := "binaryKeeps", fn := fun _ => fun
  | [d1, d2, d3] => { results := [.lit (.bool false)], args := [d1, d2, d3] }
  | _ => none }
def BinaryKeepsWrongFalsely : Prop := binaryKeepsRow.holds Tryd.pinned (OpenSpec.ofChange binaryKeepsWrong)

/-- 'gnomonlaw07.BinaryWide': WHATEVER THE INPUT: true; the input reads as it did. -/
def binaryWideSpec : ChangeSpec := { name := "binaryWide", fn := fun _ => fun
  | [d1, d2] => { results := [.lit (.bool true)], args := [d1, d2] }
  | _ => none }
def binaryWideRow : OpenClaim := { program := "ythpnmkclboennaadoor", sum := "35b791e642eecac9276da3c5915c4625a9b27e8a29fb94491b7b01d6e0215ed8", func := "gnomon/gnomonlaw07.BinaryWide", spec := "binaryWide", named := ["math/bits.deBruijn64tab"], apart := false, laid := [("math/bits.deBruijn64tab", laid_math_bits_deBruijn64tab)] }
def BinaryWideSaid : Prop := binaryWideRow.holds Tryd.pinned (OpenSpec.ofChange binaryWideSpec)

/-- ITS FALSE NEIGHBOUR: 'it returns false'. Refute it at one input. -/
def binaryWideWrong : ChangeSpec := { name := "binaryWide", fn := fun _ => fun
  | [d1, d2] => { results := [.lit (.bool false)], args := [d1, d2] }
  | _ => none }
def BinaryWideWrongFalsely : Prop := binaryWideRow.holds Tryd.pinned (OpenSpec.ofChange binaryWideWrong)

/-- 'gnomonlaw07.BinaryRejoins': WHATEVER THE INPUT: true; the input reads as it did. -/
def binaryRejoinsSpec : ChangeSpec := { name := "binaryRejoins", fn := fun _ => fun
  | [d1, d2] => { results := [.lit (.bool true)], args := [d1, d2] }
  | _ => none }
def binaryRejoinsRow : OpenClaim := { program := "ythpnmkclboennaadoor", sum := "35b791e642eecac9276da3c5915c4625a9b27e8a29fb94491b7b01d6e0215ed8", func := "gnomon/gnomonlaw07.BinaryRejoins", spec := "binaryRejoins", named := ["math/bits.deBruijn64tab"], apart := false, laid := [("math/bits.deBruijn64tab", laid_math_bits_deBruijn64tab)] }
def BinaryRejoinsSaid : Prop := binaryRejoinsRow.holds Tryd.pinned (OpenSpec.ofChange binaryRejoinsSpec)

/-- ITS FALSE NEIGHBOUR: 'it returns false'. Refute it at one input. -/
def binaryRejoinsWrong : ChangeSpec := { name := "binaryRejoins", fn := fun _ => fun
  | [d1, d2] => { results := [.lit (.bool false)], args := [d1, d2] }
  | _ => none }
def BinaryRejoinsWrongFalsely : Prop := binaryRejoinsRow.holds Tryd.pinned (OpenSpec.ofChange binaryRejoinsWrong)

/-- 'gnomonlaw07.BinaryParts': WHATEVER THE INPUT: true; the input reads as it did. -/
def binaryPartsSpec : ChangeSpec := { name := "binaryParts", fn := fun _ => fun
  | [d] => { results := [.lit (.bool true)], args := [d] }
  | _ => none }
def binaryPartsRow : OpenClaim := { program := "ythpnmkclboennaadoor", sum := "35b791e642eecac9276da3c5915c4625a9b27e8a29fb94491b7b01d6e0215ed8", func := "gnomon/gnomonlaw07.BinaryParts", spec := "binaryParts", named := ["math/bits.deBruijn64tab"], apart := false, laid := [("math/bits.deBruijn64tab", laid_math_bits_deBruijn64tab)] }
def BinaryPartsSaid : Prop := binaryPartsRow.holds Tryd.pinned (OpenSpec.ofChange binaryPartsSpec)

/-- ITS FALSE NEIGHBOUR: 'it returns false'. Refute it at one input. -/
def binaryPartsWrong : ChangeSpec := { name := "binaryParts", fn := fun _ => fun
  | [d] => { results := [.lit (.bool false)], args := [d] }
  | _ => none }
def BinaryPartsWrongFalsely : Prop := binaryPartsRow.holds Tryd.pinned (OpenSpec.ofChange binaryPartsWrong)

/-- 'gnomonlaw07.BinarySteps': WHATEVER THE INPUT: true; the input reads as it did. -/
def binaryStepsSpec : ChangeSpec := { name := "binarySteps", fn := fun _ => fun
  | [d] => { results := [.lit (.bool true)], args := [d] }
  | _ => none }
def binaryStepsRow : OpenClaim := { program := "ythpnmkclboennaadoor", sum := "35b791e642eecac9276da3c5915c4625a9b27e8a29fb94491b7b01d6e0215ed8", func := "gnomon/gnomonlaw07.BinarySteps", spec := "binarySteps", named := ["math/bits.deBruijn64tab"], apart := false, laid := [("math/bits.deBruijn64tab", laid_math_bits_deBruijn64tab)] }
def BinaryStepsSaid : Prop := binaryStepsRow.holds Tryd.pinned (OpenSpec.ofChange binaryStepsSpec)

/-- ITS FALSE NEIGHBOUR: 'it returns false'. Refute it at one input. -/
def binaryStepsWrong : ChangeSpec := { name := "binarySteps", fn := fun _ => fun
  | [d] => { results := [.lit (.bool false)], args := [d] }
  | _ => none }
def BinaryStepsWrongFalsely : Prop := binaryStepsRow.holds Tryd.pinned (OpenSpec.ofChange binaryStepsWrong)

/-- 'gnomonlaw07.BinaryMids': WHATEVER THE INPUT: true; the input reads as it did. -/
def binaryMidsSpec : ChangeSpec := { name := "binaryMids", fn := fun _ => fun
  | [d] => { results := [.lit (.bool true)], args := [d] }
  | _ => none }
def binaryMidsRow : OpenClaim := { program := "ythpnmkclboennaadoor", sum := "35b791e642eecac9276da3c5915c4625a9b27e8a29fb94491b7b01d6e0215ed8", func := "gnomon/gnomonlaw07.BinaryMids", spec := "binaryMids", named := ["math/bits.deBruijn64tab"], apart := false, laid := [("math/bits.deBruijn64tab", laid_math_bits_deBruijn64tab)] }
def BinaryMidsSaid : Prop := binaryMidsRow.holds Tryd.pinned (OpenSpec.ofChange binaryMidsSpec)

/-- ITS FALSE NEIGHBOUR: 'it returns false'. Refute it at one input. -/
def binaryMidsWrong : ChangeSpec := { name := "binaryMids", fn := fun _ => fun
  | [d] => { results := [.lit (.bool false)], args := [d] }
  | _ => none }
def BinaryMidsWrongFalsely : Prop := binaryMidsRow.holds Tryd.pinned (OpenSpec.ofChange binaryMidsWrong)

/-- 'gnomonlaw07.BinaryWidens': WHATEVER THE INPUT: true; the input reads as it did. -/
def binaryWidensSpec : ChangeSpec := { name := "binaryWidens", fn := fun _ => fun
  | [d] => { results := [.lit (.bool true)], args := [d] }
  | _ => none }
def binaryWidensRow : OpenClaim := { program := "ythpnmkclboennaadoor", sum := "35b791e642eecac9276da3c5915c4625a9b27e8a29fb94491b7b01d6e0215ed8", func := "gnomon/gnomonlaw07.BinaryWidens", spec := "binaryWidens", named := ["math/bits.deBruijn64tab"], apart := false, laid := [("math/bits.deBruijn64tab", laid_math_bits_deBruijn64tab)] }
def BinaryWidensSaid : Prop := binaryWidensRow.holds Tryd.pinned (OpenSpec.ofChange binaryWidensSpec)

/-- ITS FALSE NEIGHBOUR: 'it returns false'. Refute it at one input. -/
def binaryWidensWrong : ChangeSpec := { name := "binaryWidens", fn := fun _ => fun
  | [d] => { results := [.lit (.bool false)], args := [d] }
  | _ => none }
def BinaryWidensWrongFalsely : Prop := binaryWidensRow.holds Tryd.pinned (OpenSpec.ofChange binaryWidensWrong)

/-- 'gnomonlaw07.BinaryNeighbours': WHATEVER THE INPUT: true; the input reads as it did. -/
def binaryNeighboursSpec : ChangeSpec := { name := "binaryNeighbours", fn := fun _ => fun
  | [d1, d2, d3] => { results := [.lit (.bool true)], args := [d1, d2, d3] }
  | _ => none }
def binaryNeighboursRow : OpenClaim := { program := "ythpnmkclboennaadoor", sum := "35b791e642eecac9276da3c5915c4625a9b27e8a29fb94491b7b01d6e0215ed8", func := "gnomon/gnomonlaw07.BinaryNeighbours", spec := "binaryNeighbours", named := ["math/bits.deBruijn64tab"], apart := false, laid := [("math/bits.deBruijn64tab", laid_math_bits_deBruijn64tab)] }
def BinaryNeighboursSaid : Prop := binaryNeighboursRow.holds Tryd.pinned (OpenSpec.ofChange binaryNeighboursSpec)

/-- ITS FALSE NEIGHBOUR: 'it returns false'. Refute it at one input. -/
def binaryNeighboursWrong : ChangeSpec := { name := "binaryNeighbours", fn := fun _ => fun
  | [d1, d2, d3] => { results := [.lit (.bool false)], args := [d1, d2, d3] }
  | _ => none }
def BinaryNeighboursWrongFalsely : Prop := binaryNeighboursRow.holds Tryd.pinned (OpenSpec.ofChange binaryNeighboursWrong)

/-- 'gnomonlaw07.BinaryMiddles': WHATEVER THE INPUT: true; the input reads as it did. -/
def binaryMiddlesSpec : ChangeSpec := { name := "binaryMiddles", fn := fun _ => fun
  | [d1, d2] => { results := [.lit (.bool true)], args := [d1, d2] }
  | _ => none }
def binaryMiddlesRow : OpenClaim := { program := "ythpnmkclboennaadoor", sum := "35b791e642eecac9276da3c5915c4625a9b27e8a29fb94491b7b01d6e0215ed8", func := "gnomon/gnomonlaw07.BinaryMiddles", spec := "binaryMiddles", inPlace := ["math/bits.Add64", "math/bits.Sub64"], named := ["math/bits.deBruijn64tab"], apart := false, laid := [("math/bits.deBruijn64tab", laid_math_bits_deBruijn64tab)] }
def BinaryMiddlesSaid : Prop := binaryMiddlesRow.holds Tryd.pinned (OpenSpec.ofChange binaryMiddlesSpec)

/-- ITS FALSE NEIGHBOUR: 'it returns false'. Refute it at one input. -/
def binaryMiddlesWrong : ChangeSpec := { name := "binaryMiddles", fn := fun _ => fun
  | [d1, d2] => { results := [.lit (.bool false)], args := [d1, d2] }
  | _ => none }
def BinaryMiddlesWrongFalsely : Prop := binaryMiddlesRow.holds Tryd.pinned (OpenSpec.ofChange binaryMiddlesWrong)

/- THE SECOND FORM. 'bulk': how many values and letters a reading holds, each counted each time it is reached (what is shared counts as often as it is met; a slice's spare places count too). A statement '..UptoSaid' is the law's where the arguments, and the package variables that the reading takes, are together of bulk at most 1048576: NARROWER than '..Said'. Prove '..Said' where nothing that the law and all that it calls make is longer than what came in: it says more and counts as full. Else prove '..UptoSaid'. A law counts once. -/
mutual
def uptoBulk {H : Type} : DataW H → Nat
  | .lit (.string bytes) => bytes.length + 1
  | .lit _ => 1
  | .nil => 1
  | .ptr d => uptoBulk d + 1
  | .slice elems spare => uptoBulkAll elems + uptoBulkAll spare + 1
  | .agg parts => uptoBulkAll parts + 1
  | .iface _ d => uptoBulk d + 1
  | .map entries => uptoBulkEntries entries + 1
  | .held _ => 1
def uptoBulkAll {H : Type} : List (DataW H) → Nat
  | [] => 0
  | d :: r => uptoBulk d + uptoBulkAll r
def uptoBulkEntries {H : Type} : List (Lit × DataW H) → Nat
  | [] => 0
  | x :: r => uptoBulkEntry x + uptoBulkEntries r
def uptoBulkEntry {H : Type} : Lit × DataW H → Nat
  | (.string bytes, d) => bytes.length + uptoBulk d + 1
  | (_, d) => uptoBulk d + 1
 end
def uptoSmall : (H : Type) → List (DataW H) → Bool := fun _ ds => decide (uptoBulkAll ds ≤ 1048576)
def OpenSpec.upto (s : _root_.Go.ChangeSpec) : _root_.Go.OpenSpec := { _root_.Go.OpenSpec.ofChange s with cond := some uptoSmall }

/-- 'gnomonlaw07.BinaryKeeps', WHERE WHAT IT READS IS OF BULK AT MOST 1048576: true; the input reads as it did. -/
def binaryKeepsUptoRow : OpenClaim := { program := "ythpnmkclboennaadoor", sum := "35b791e642eecac9276da3c5915c4625a9b27e8a29fb94491b7b01d6e0215ed8", func := "gnomon/gnomonlaw07.BinaryKeeps", spec := "binaryKeeps", named := ["math/bits.deBruijn64tab"], apart := false, laid := [("math/bits.deBruijn64tab", laid_math_bits_deBruijn64tab)], narrowed := true }
def BinaryKeepsUptoSaid : Prop := binaryKeepsUptoRow.holds Tryd.pinned (OpenSpec.upto binaryKeepsSpec)

/-- 'gnomonlaw07.BinaryWide', WHERE WHAT IT READS IS OF BULK AT MOST 1048576: true; the input reads as it did. -/
def binaryWideUptoRow : OpenClaim := { program := "ythpnmkclboennaadoor", sum := "35b791e642eecac9276da3c5915c4625a9b27e8a29fb94491b7b01d6e0215ed8", func := "gnomon/gnomonlaw07.BinaryWide", spec := "binaryWide", named := ["math/bits.deBruijn64tab"], apart := false, laid := [("math/bits.deBruijn64tab", laid_math_bits_deBruijn64tab)], narrowed := true }
def BinaryWideUptoSaid : Prop := binaryWideUptoRow.holds Tryd.pinned (OpenSpec.upto binaryWideSpec)

/-- 'gnomonlaw07.BinaryRejoins', WHERE WHAT IT READS IS OF BULK AT MOST 1048576: true; the input reads as it did. -/
def binaryRejoinsUptoRow : OpenClaim := { program := "ythpnmkclboennaadoor", sum := "35b791e642eecac9276da3c5915c4625a9b27e8a29fb94491b7b01d6e0215ed8", func := "gnomon/gnomonlaw07.BinaryRejoins", spec := "binaryRejoins", named := ["math/bits.deBruijn64tab"], apart := false, laid := [("math/bits.deBruijn64tab", laid_math_bits_deBruijn64tab)], narrowed := true }
def BinaryRejoinsUptoSaid : Prop := binaryRejoinsUptoRow.holds Tryd.pinned (OpenSpec.upto binaryRejoinsSpec)

/-- 'gnomonlaw07.BinaryParts', WHERE WHAT IT READS IS OF BULK AT MOST 1048576: true; the input reads as it did. -/
def binaryPartsUptoRow : OpenClaim := { program := "ythpnmkclboennaadoor", sum := "35b791e642eecac9276da3c5915c4625a9b27e8a29fb94491b7b01d6e0215ed8", func := "gnomon/gnomonlaw07.BinaryParts", spec := "binaryParts", named := ["math/bits.deBruijn64tab"], apart := false, laid := [("math/bits.deBruijn64tab", laid_math_bits_deBruijn64tab)], narrowed := true }
def BinaryPartsUptoSaid : Prop := binaryPartsUptoRow.holds Tryd.pinned (OpenSpec.upto binaryPartsSpec)

/-- 'gnomonlaw07.BinarySteps', WHERE WHAT IT READS IS OF BULK AT MOST 1048576: true; the input reads as it did. -/
def binaryStepsUptoRow : OpenClaim := { program := "ythpnmkclboennaadoor", sum := "35b791e642eecac9276da3c5915c4625a9b27e8a29fb94491b7b01d6e0215ed8", func := "gnomon/gnomonlaw07.BinarySteps", spec := "binarySteps", named := ["math/bits.deBruijn64tab"], apart := false, laid := [("math/bits.deBruijn64tab", laid_math_bits_deBruijn64tab)], narrowed := true }
def BinaryStepsUptoSaid : Prop := binaryStepsUptoRow.holds Tryd.pinned (OpenSpec.upto binaryStepsSpec)

/-- 'gnomonlaw07.BinaryMids', WHERE WHAT IT READS IS OF BULK AT MOST 1048576: true; the input reads as it did. -/
def binaryMidsUptoRow : OpenClaim := { program := "ythpnmkclboennaadoor", sum := "35b791e642eecac9276da3c5915c4625a9b27e8a29fb94491b7b01d6e0215ed8", func := "gnomon/gnomonlaw07.BinaryMids", spec := "binaryMids", named := ["math/bits.deBruijn64tab"], apart := false, laid := [("math/bits.deBruijn64tab", laid_math_bits_deBruijn64tab)], narrowed := true }
def BinaryMidsUptoSaid : Prop := binaryMidsUptoRow.holds Tryd.pinned (OpenSpec.upto binaryMidsSpec)

/-- 'gnomonlaw07.BinaryWidens', WHERE WHAT IT READS IS OF BULK AT MOST 1048576: true; the input reads as it did. -/
def binaryWidensUptoRow : OpenClaim := { program := "ythpnmkclboennaadoor", sum := "35b791e642eecac9276da3c5915c4625a9b27e8a29fb94491b7b01d6e0215ed8", func := "gnomon/gnomonlaw07.BinaryWidens", spec := "binaryWidens", named := ["math/bits.deBruijn64tab"], apart := false, laid := [("math/bits.deBruijn64tab", laid_math_bits_deBruijn64tab)], narrowed := true }
def BinaryWidensUptoSaid : Prop := binaryWidensUptoRow.holds Tryd.pinned (OpenSpec.upto binaryWidensSpec)

/-- 'gnomonlaw07.BinaryNeighbours', WHERE WHAT IT READS IS OF BULK AT MOST 1048576: true; the input reads as it did. -/
def binaryNeighboursUptoRow : OpenClaim := { program := "ythpnmkclboennaadoor", sum := "35b791e642eecac9276da3c5915c4625a9b27e8a29fb94491b7b01d6e0215ed8", func := "gnomon/gnomonlaw07.BinaryNeighbours", spec := "binaryNeighbours", named := ["math/bits.deBruijn64tab"], apart := false, laid := [("math/bits.deBruijn64tab", laid_math_bits_deBruijn64tab)], narrowed := true }
def BinaryNeighboursUptoSaid : Prop := binaryNeighboursUptoRow.holds Tryd.pinned (OpenSpec.upto binaryNeighboursSpec)

/-- 'gnomonlaw07.BinaryMiddles', WHERE WHAT IT READS IS OF BULK AT MOST 1048576: true; the input reads as it did. -/
def binaryMiddlesUptoRow : OpenClaim := { program := "ythpnmkclboennaadoor", sum := "35b791e642eecac9276da3c5915c4625a9b27e8a29fb94491b7b01d6e0215ed8", func := "gnomon/gnomonlaw07.BinaryMiddles", spec := "binaryMiddles", inPlace := ["math/bits.Add64", "math/bits.Sub64"], named := ["math/bits.deBruijn64tab"], apart := false, laid := [("math/bits.deBruijn64tab", laid_math_bits_deBruijn64tab)], narrowed := true }
def BinaryMiddlesUptoSaid : Prop := binaryMiddlesUptoRow.holds Tryd.pinned (OpenSpec.upto binaryMiddlesSpec)

end Rows
end Go.Proofs.YthpnmkclboennaaDoor
