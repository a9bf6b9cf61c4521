/-
  NARROWER THAN 'FOR EVERY INPUT', by the rows' own cells (each row's printed sentence says how): RoundQuoted: laid · RoundRooted: laid · RoundKeeps: laid · RoundNearests: laid · RoundCells: laid · RoundQuotients: laid · RoundNarrows: laid.
  DERIVED. THE GIVEN ROWS OF THIS SEAT. 7 by the template 'for every input the law returns true; each argument reads behind the call as it read before'; 0 by the template 'total and deterministic' (their statements: YtelfmddcjlocpaaGreatDoorTotals.lean).
  GIVEN WITH THE SEED: the statements are not yours to turn. If you find one false, say at which input.
  Laid BY PROGRAM, IN A SANDBOX (cutbox-rows.mjs): the forced cells as the released guide's own fill.sh prints them over the translation c4715033ed99d9c2… (all of the seat's roots in one cut). By AI agents, Wed Nov 11 2026. No macro, syntax, notation, axiom, sorry.
-/
import Derived.Test.YtelfmddcjlocpaaGreatDoorChecked
import GoSem.Claim
import GoSem.ClaimJoined
import GoSem.ClaimMapViews
import Derived.JoinedTies
import Derived.KernelRfl
namespace Go.Proofs.YtelfmddcjlocpaaGreatDoor
/- THE CELL 'sum', in the pinned program and in every row, IS THE sha256 OF THE DUMP (.gsa) THAT YtelfmddcjlocpaaGreatDoorProg.lean LOADS. Nothing in Lean hashes anything: it is a label: what it is worth is what the hold of that sum in a sandbox is worth. -/
noncomputable def Tryz.pinned : Pinned := { name := "ytelfmddcjlocpaagreatdoor", sum := "c4715033ed99d9c24e83ac78f6a58c8cd050bfad2de90bec5317be3f74e040a6", checked := Tryz.checked }
namespace Rows
def none {H : Type} : Left H := { results := [], args := [] }

/- WHAT THE LISTED PACKAGE-LEVEL VARIABLES READ AS WHEN THE CALL BEGINS. Each datum BY PROGRAM (the guide's laid-datum.mjs) off the statement by which the dump's own 'gosem.cut.vars' lays the variable. In a bare row this is a premise. The card (YtelfmddcjlocpaaGreatDoorCards.lean) ties it to the program's text. -/
def laid_math_bits_deBruijn64tab {H : Type} : DataW H := .agg [.lit (.int .u8 0), .lit (.int .u8 1), .lit (.int .u8 56), .lit (.int .u8 2), .lit (.int .u8 57), .lit (.int .u8 49), .lit (.int .u8 28), .lit (.int .u8 3), .lit (.int .u8 61), .lit (.int .u8 58), .lit (.int .u8 42), .lit (.int .u8 50), .lit (.int .u8 38), .lit (.int .u8 29), .lit (.int .u8 17), .lit (.int .u8 4), .lit (.int .u8 62), .lit (.int .u8 47), .lit (.int .u8 59), .lit (.int .u8 36), .lit (.int .u8 45), .lit (.int .u8 43), .lit (.int .u8 51), .lit (.int .u8 22), .lit (.int .u8 53), .lit (.int .u8 39), .lit (.int .u8 33), .lit (.int .u8 30), .lit (.int .u8 24), .lit (.int .u8 18), .lit (.int .u8 12), .lit (.int .u8 5), .lit (.int .u8 63), .lit (.int .u8 55), .lit (.int .u8 48), .lit (.int .u8 27), .lit (.int .u8 60), .lit (.int .u8 41), .lit (.int .u8 37), .lit (.int .u8 16), .lit (.int .u8 46), .lit (.int .u8 35), .lit (.int .u8 44), .lit (.int .u8 21), .lit (.int .u8 52), .lit (.int .u8 32), .lit (.int .u8 23), .lit (.int .u8 11), .lit (.int .u8 54), .lit (.int .u8 26), .lit (.int .u8 40), .lit (.int .u8 15), .lit (.int .u8 34), .lit (.int .u8 20), .lit (.int .u8 31), .lit (.int .u8 10), .lit (.int .u8 25), .lit (.int .u8 14), .lit (.int .u8 19), .lit (.int .u8 9), .lit (.int .u8 13), .lit (.int .u8 8), .lit (.int .u8 7), .lit (.int .u8 6)]

/-- 'gnomonlaw08.RoundQuoted': WHATEVER THE INPUT: true; the input reads as it did. -/
def roundQuotedSpec : ChangeSpec := { name := "roundQuoted", fn := fun _ => fun
  | [d1, d2, d3] => { results := [.lit (.bool true)], args := [d1, d2, d3] }
  | _ => none }
def roundQuotedRow : OpenClaim := { program := "ytelfmddcjlocpaagreatdoor", sum := "c4715033ed99d9c24e83ac78f6a58c8cd050bfad2de90bec5317be3f74e040a6", func := "gnomon/gnomonlaw08.RoundQuoted", spec := "roundQuoted", inPlace := ["math/bits.Add64", "math/bits.Sub64"], recurses := true, named := ["math/bits.divideError", "math/bits.overflowError", "math/bits.deBruijn64tab"], apart := false, laid := [("math/bits.deBruijn64tab", laid_math_bits_deBruijn64tab)] }
def RoundQuotedSaid : Prop := roundQuotedRow.holds Tryz.pinned (OpenSpec.ofChange roundQuotedSpec)

/-- ITS FALSE NEIGHBOUR: 'it returns false'. Refute it at one input. -/
def roundQuotedWrong : ChangeSpec := { name := "roundQuoted", fn := fun _ => fun
  | [d1, d2, d3] => { results := [.lit (.bool false)], args := [d1, d2, d3] }
  | _ => none }
def RoundQuotedWrongFalsely : Prop := roundQuotedRow.holds Tryz.pinned (OpenSpec.ofChange roundQuotedWrong)

/-- 'gnomonlaw08.RoundRooted': WHATEVER THE INPUT: true; the input reads as it did. -/
def roundRootedSpec : ChangeSpec := { name := "roundRooted", fn := fun _ => fun
  | [d1, d2] => { results := [.lit (.bool true)], args := [d1, d2] }
  | _ => none }
def roundRootedRow : OpenClaim := { program := "ytelfmddcjlocpaagreatdoor", sum := "c4715033ed99d9c24e83ac78f6a58c8cd050bfad2de90bec5317be3f74e040a6", func := "gnomon/gnomonlaw08.RoundRooted", spec := "roundRooted", inPlace := ["math/bits.Add64", "math/bits.Sub64"], recurses := true, named := ["math/bits.divideError", "math/bits.overflowError", "math/bits.deBruijn64tab"], apart := false, laid := [("math/bits.deBruijn64tab", laid_math_bits_deBruijn64tab)] }
def RoundRootedSaid : Prop := roundRootedRow.holds Tryz.pinned (OpenSpec.ofChange roundRootedSpec)

/-- ITS FALSE NEIGHBOUR: 'it returns false'. Refute it at one input. -/
def roundRootedWrong : ChangeSpec := { name := "roundRooted", fn := fun _ => fun
  | [d1, d2] => { results := [.lit (.bool false)], args := [d1, d2] }
  | _ => none }
def RoundRootedWrongFalsely : Prop := roundRootedRow.holds Tryz.pinned (OpenSpec.ofChange roundRootedWrong)

/-- 'gnomonlaw08.RoundKeeps': WHATEVER THE INPUT: true; the input reads as it did. -/
def roundKeepsSpec : ChangeSpec := { name := "roundKeeps", fn := fun _ => fun
  | [d] => { results := [.lit (.bool true)], args := [d] }
  | _ => none }
def roundKeepsRow : OpenClaim := { program := "ytelfmddcjlocpaagreatdoor", sum := "c4715033ed99d9c24e83ac78f6a58c8cd050bfad2de90bec5317be3f74e040a6", func := "gnomon/gnomonlaw08.RoundKeeps", spec := "roundKeeps", inPlace := ["math/bits.Add64", "math/bits.Sub64"], recurses := true, named := ["math/bits.deBruijn64tab", "math/bits.divideError", "math/bits.overflowError"], apart := false, laid := [("math/bits.deBruijn64tab", laid_math_bits_deBruijn64tab)] }
def RoundKeepsSaid : Prop := roundKeepsRow.holds Tryz.pinned (OpenSpec.ofChange roundKeepsSpec)

/-- ITS FALSE NEIGHBOUR: 'it returns false'. Refute it at one input. -/
def roundKeepsWrong : ChangeSpec := { name := "roundKeeps", fn := fun _ => fun
  | [d] => { results := [.lit (.bool false)], args := [d] }
  | _ => none }
def RoundKeepsWrongFalsely : Prop := roundKeepsRow.holds Tryz.pinned (OpenSpec.ofChange roundKeepsWrong)

/-- 'gnomonlaw08.RoundNearests': WHATEVER THE INPUT: true; the input reads as it did. -/
def roundNearestsSpec : ChangeSpec := { name := "roundNearests", fn := fun _ => fun
  | [d] => { results := [.lit (.bool true)], args := [d] }
  | _ => none }
def roundNearestsRow : OpenClaim := { program := "ytelfmddcjlocpaagreatdoor", sum := "c4715033ed99d9c24e83ac78f6a58c8cd050bfad2de90bec5317be3f74e040a6", func := "gnomon/gnomonlaw08.RoundNearests", spec := "roundNearests", inPlace := ["math/bits.Add64", "math/bits.Sub64"], recurses := true, named := ["math/bits.deBruijn64tab", "math/bits.divideError", "math/bits.overflowError"], apart := false, laid := [("math/bits.deBruijn64tab", laid_math_bits_deBruijn64tab)] }
def RoundNearestsSaid : Prop := roundNearestsRow.holds Tryz.pinned (OpenSpec.ofChange roundNearestsSpec)

/-- ITS FALSE NEIGHBOUR: 'it returns false'. Refute it at one input. -/
def roundNearestsWrong : ChangeSpec := { name := "roundNearests", fn := fun _ => fun
  | [d] => { results := [.lit (.bool false)], args := [d] }
  | _ => none }
def RoundNearestsWrongFalsely : Prop := roundNearestsRow.holds Tryz.pinned (OpenSpec.ofChange roundNearestsWrong)

/-- 'gnomonlaw08.RoundCells': WHATEVER THE INPUT: true; the input reads as it did. -/
def roundCellsSpec : ChangeSpec := { name := "roundCells", fn := fun _ => fun
  | [d] => { results := [.lit (.bool true)], args := [d] }
  | _ => none }
def roundCellsRow : OpenClaim := { program := "ytelfmddcjlocpaagreatdoor", sum := "c4715033ed99d9c24e83ac78f6a58c8cd050bfad2de90bec5317be3f74e040a6", func := "gnomon/gnomonlaw08.RoundCells", spec := "roundCells", inPlace := ["math/bits.Add64", "math/bits.Sub64"], recurses := true, named := ["math/bits.deBruijn64tab", "math/bits.divideError", "math/bits.overflowError"], apart := false, laid := [("math/bits.deBruijn64tab", laid_math_bits_deBruijn64tab)] }
def RoundCellsSaid : Prop := roundCellsRow.holds Tryz.pinned (OpenSpec.ofChange roundCellsSpec)

/-- ITS FALSE NEIGHBOUR: 'it returns false'. Refute it at one input. -/
def roundCellsWrong : ChangeSpec := { name := "roundCells", fn := fun _ => fun
  | [d] => { results := [.lit (.bool false)], args := [d] }
  | _ => none }
def RoundCellsWrongFalsely : Prop := roundCellsRow.holds Tryz.pinned (OpenSpec.ofChange roundCellsWrong)

/-- 'gnomonlaw08.RoundQuotients': WHATEVER THE INPUT: true; the input reads as it did. -/
def roundQuotientsSpec : ChangeSpec := { name := "roundQuotients", fn := fun _ => fun
  | [d] => { results := [.lit (.bool true)], args := [d] }
  | _ => none }
def roundQuotientsRow : OpenClaim := { program := "ytelfmddcjlocpaagreatdoor", sum := "c4715033ed99d9c24e83ac78f6a58c8cd050bfad2de90bec5317be3f74e040a6", func := "gnomon/gnomonlaw08.RoundQuotients", spec := "roundQuotients", inPlace := ["math/bits.Add64", "math/bits.Sub64"], recurses := true, named := ["math/bits.divideError", "math/bits.overflowError", "math/bits.deBruijn64tab"], apart := false, laid := [("math/bits.deBruijn64tab", laid_math_bits_deBruijn64tab)] }
def RoundQuotientsSaid : Prop := roundQuotientsRow.holds Tryz.pinned (OpenSpec.ofChange roundQuotientsSpec)

/-- ITS FALSE NEIGHBOUR: 'it returns false'. Refute it at one input. -/
def roundQuotientsWrong : ChangeSpec := { name := "roundQuotients", fn := fun _ => fun
  | [d] => { results := [.lit (.bool false)], args := [d] }
  | _ => none }
def RoundQuotientsWrongFalsely : Prop := roundQuotientsRow.holds Tryz.pinned (OpenSpec.ofChange roundQuotientsWrong)

/-- 'gnomonlaw08.RoundNarrows': WHATEVER THE INPUT: true; the input reads as it did. -/
def roundNarrowsSpec : ChangeSpec := { name := "roundNarrows", fn := fun _ => fun
  | [d] => { results := [.lit (.bool true)], args := [d] }
  | _ => none }
def roundNarrowsRow : OpenClaim := { program := "ytelfmddcjlocpaagreatdoor", sum := "c4715033ed99d9c24e83ac78f6a58c8cd050bfad2de90bec5317be3f74e040a6", func := "gnomon/gnomonlaw08.RoundNarrows", spec := "roundNarrows", inPlace := ["math/bits.Add64", "math/bits.Sub64"], recurses := true, named := ["math/bits.deBruijn64tab", "math/bits.divideError", "math/bits.overflowError"], apart := false, laid := [("math/bits.deBruijn64tab", laid_math_bits_deBruijn64tab)] }
def RoundNarrowsSaid : Prop := roundNarrowsRow.holds Tryz.pinned (OpenSpec.ofChange roundNarrowsSpec)

/-- ITS FALSE NEIGHBOUR: 'it returns false'. Refute it at one input. -/
def roundNarrowsWrong : ChangeSpec := { name := "roundNarrows", fn := fun _ => fun
  | [d] => { results := [.lit (.bool false)], args := [d] }
  | _ => none }
def RoundNarrowsWrongFalsely : Prop := roundNarrowsRow.holds Tryz.pinned (OpenSpec.ofChange roundNarrowsWrong)

/- THE SECOND FORM. 'bulk': how many values and letters a reading holds, each counted each time it is reached (what is shared counts as often as it is met; a slice's spare places count too). A statement '..UptoSaid' is the law's where the arguments, and the package variables that the reading takes, are together of bulk at most 1048576: NARROWER than '..Said'. Prove '..Said' where nothing that the law and all that it calls make is longer than what came in: it says more and counts as full. Else prove '..UptoSaid'. A law counts once. -/
mutual
def uptoBulk {H : Type} : DataW H → Nat
  | .lit (.string bytes) => bytes.length + 1
  | .lit _ => 1
  | .nil => 1
  | .ptr d => uptoBulk d + 1
  | .slice elems spare => uptoBulkAll elems + uptoBulkAll spare + 1
  | .agg parts => uptoBulkAll parts + 1
  | .iface _ d => uptoBulk d + 1
  | .map entries => uptoBulkEntries entries + 1
  | .held _ => 1
def uptoBulkAll {H : Type} : List (DataW H) → Nat
  | [] => 0
  | d :: r => uptoBulk d + uptoBulkAll r
def uptoBulkEntries {H : Type} : List (Lit × DataW H) → Nat
  | [] => 0
  | x :: r => uptoBulkEntry x + uptoBulkEntries r
def uptoBulkEntry {H : Type} : Lit × DataW H → Nat
  | (.string bytes, d) => bytes.length + uptoBulk d + 1
  | (_, d) => uptoBulk d + 1
 end
def uptoSmall : (H : Type) → List (DataW H) → Bool := fun _ ds => decide (uptoBulkAll ds ≤ 1048576)
def OpenSpec.upto (s : _root_.Go.ChangeSpec) : _root_.Go.OpenSpec := { _root_.Go.OpenSpec.ofChange s with cond := some uptoSmall }

/-- 'gnomonlaw08.RoundQuoted', WHERE WHAT IT READS IS OF BULK AT MOST 1048576: true; the input reads as it did. -/
def roundQuotedUptoRow : OpenClaim := { program := "ytelfmddcjlocpaagreatdoor", sum := "c4715033ed99d9c24e83ac78f6a58c8cd050bfad2de90bec5317be3f74e040a6", func := "gnomon/gnomonlaw08.RoundQuoted", spec := "roundQuoted", inPlace := ["math/bits.Add64", "math/bits.Sub64"], recurses := true, named := ["math/bits.divideError", "math/bits.overflowError", "math/bits.deBruijn64tab"], apart := false, laid := [("math/bits.deBruijn64tab", laid_math_bits_deBruijn64tab)], narrowed := true }
def RoundQuotedUptoSaid : Prop := roundQuotedUptoRow.holds Tryz.pinned (OpenSpec.upto roundQuotedSpec)

/-- 'gnomonlaw08.RoundRooted', WHERE WHAT IT READS IS OF BULK AT MOST 1048576: true; the input reads as it did. -/
def roundRootedUptoRow : OpenClaim := { program := "ytelfmddcjlocpaagreatdoor", sum := "c4715033ed99d9c24e83ac78f6a58c8cd050bfad2de90bec5317be3f74e040a6", func := "gnomon/gnomonlaw08.RoundRooted", spec := "roundRooted", inPlace := ["math/bits.Add64", "math/bits.Sub64"], recurses := true, named := ["math/bits.divideError", "math/bits.overflowError", "math/bits.deBruijn64tab"], apart := false, laid := [("math/bits.deBruijn64tab", laid_math_bits_deBruijn64tab)], narrowed := true }
def RoundRootedUptoSaid : Prop := roundRootedUptoRow.holds Tryz.pinned (OpenSpec.upto roundRootedSpec)

/-- 'gnomonlaw08.RoundKeeps', WHERE WHAT IT READS IS OF BULK AT MOST 1048576: true; the input reads as it did. -/
def roundKeepsUptoRow : OpenClaim := { program := "ytelfmddcjlocpaagreatdoor", sum := "c4715033ed99d9c24e83ac78f6a58c8cd050bfad2de90bec5317be3f74e040a6", func := "gnomon/gnomonlaw08.RoundKeeps", spec := "roundKeeps", inPlace := ["math/bits.Add64", "math/bits.Sub64"], recurses := true, named := ["math/bits.deBruijn64tab", "math/bits.divideError", "math/bits.overflowError"], apart := false, laid := [("math/bits.deBruijn64tab", laid_math_bits_deBruijn64tab)], narrowed := true }
def RoundKeepsUptoSaid : Prop := roundKeepsUptoRow.holds Tryz.pinned (OpenSpec.upto roundKeepsSpec)

/-- 'gnomonlaw08.RoundNearests', WHERE WHAT IT READS IS OF BULK AT MOST 1048576: true; the input reads as it did. -/
def roundNearestsUptoRow : OpenClaim := { program := "ytelfmddcjlocpaagreatdoor", sum := "c4715033ed99d9c24e83ac78f6a58c8cd050bfad2de90bec5317be3f74e040a6", func := "gnomon/gnomonlaw08.RoundNearests", spec := "roundNearests", inPlace := ["math/bits.Add64", "math/bits.Sub64"], recurses := true, named := ["math/bits.deBruijn64tab", "math/bits.divideError", "math/bits.overflowError"], apart := false, laid := [("math/bits.deBruijn64tab", laid_math_bits_deBruijn64tab)], narrowed := true }
def RoundNearestsUptoSaid : Prop := roundNearestsUptoRow.holds Tryz.pinned (OpenSpec.upto roundNearestsSpec)

/-- 'gnomonlaw08.RoundCells', WHERE WHAT IT READS IS OF BULK AT MOST 1048576: true; the input reads as it did. -/
def roundCellsUptoRow : OpenClaim := { program := "ytelfmddcjlocpaagreatdoor", sum := "c4715033ed99d9c24e83ac78f6a58c8cd050bfad2de90bec5317be3f74e040a6", func := "gnomon/gnomonlaw08.RoundCells", spec := "roundCells", inPlace := ["math/bits.Add64", "math/bits.Sub64"], recurses := true, named := ["math/bits.deBruijn64tab", "math/bits.divideError", "math/bits.overflowError"], apart := false, laid := [("math/bits.deBruijn64tab", laid_math_bits_deBruijn64tab)], narrowed := true }
def RoundCellsUptoSaid : Prop := roundCellsUptoRow.holds Tryz.pinned (OpenSpec.upto roundCellsSpec)

/-- 'gnomonlaw08.RoundQuotients', WHERE WHAT IT READS IS OF BULK AT MOST 1048576: true; the input reads as it did. -/
def roundQuotientsUptoRow : OpenClaim := { program := "ytelfmddcjlocpaagreatdoor", sum := "c4715033ed99d9c24e83ac78f6a58c8cd050bfad2de90bec5317be3f74e040a6", func := "gnomon/gnomonlaw08.RoundQuotients", spec := "roundQuotients", inPlace := ["math/bits.Add64", "math/bits.Sub64"], recurses := true, named := ["math/bits.divideError", "math/bits.overflowError", "math/bits.deBruijn64tab"], apart := false, laid := [("math/bits.deBruijn64tab", laid_math_bits_deBruijn64tab)], narrowed := true }
def RoundQuotientsUptoSaid : Prop := roundQuotientsUptoRow.holds Tryz.pinned (OpenSpec.upto roundQuotientsSpec)

/-- 'gnomonlaw08.RoundNarrows', WHERE WHAT IT READS IS OF BULK AT MOST 1048576: true; the input reads as it did. -/
def roundNarrowsUptoRow : OpenClaim := { program := "ytelfmddcjlocpaagreatdoor", sum := "c4715033ed99d9c24e83ac78f6a58c8cd050bfad2de90bec5317be3f74e040a6", func := "gnomon/gnomonlaw08.RoundNarrows", spec := "roundNarrows", inPlace := ["math/bits.Add64", "math/bits.Sub64"], recurses := true, named := ["math/bits.deBruijn64tab", "math/bits.divideError", "math/bits.overflowError"], apart := false, laid := [("math/bits.deBruijn64tab", laid_math_bits_deBruijn64tab)], narrowed := true }
def RoundNarrowsUptoSaid : Prop := roundNarrowsUptoRow.holds Tryz.pinned (OpenSpec.upto roundNarrowsSpec)

end Rows
end Go.Proofs.YtelfmddcjlocpaaGreatDoor
