/-
  NARROWER THAN 'FOR EVERY INPUT', by the rows' own cells (each row's printed sentence says how): SoftPlays: laid · SoftFixed: laid · SoftNearest: laid · SoftSterbenz: laid · SoftErrors: laid · SoftOrders: laid · SoftTwins: laid · SoftRootOfSquare: laid · SoftMachine: laid · SoftThroughDouble: laid · EftSoft: laid.
  DERIVED. THE GIVEN ROWS OF THIS SEAT. 11 by the template 'for every input the law returns true; each argument reads behind the call as it read before'; 0 by the template 'total and deterministic' (their statements: YtokoadgahflafaaGreatDoorTotals.lean).
  GIVEN WITH THE SEED: the statements are not yours to turn. If you find one false, say at which input.
  Laid BY PROGRAM, IN A SANDBOX (cutbox-rows.mjs): the forced cells as the released guide's own fill.sh prints them over the translation 625bfa2045b0655c… (all of the seat's roots in one cut). By AI agents, Wed Nov 11 2026. No macro, syntax, notation, axiom, sorry.
-/
import Derived.Test.YtokoadgahflafaaGreatDoorChecked
import GoSem.Claim
import GoSem.ClaimJoined
import GoSem.ClaimMapViews
import Derived.JoinedTies
import Derived.KernelRfl
namespace Go.Proofs.YtokoadgahflafaaGreatDoor
/- THE CELL 'sum', in the pinned program and in every row, IS THE sha256 OF THE DUMP (.gsa) THAT YtokoadgahflafaaGreatDoorProg.lean LOADS. Nothing in Lean hashes anything: it is a label: what it is worth is what the hold of that sum in a sandbox is worth. -/
noncomputable def Tryz.pinned : Pinned := { name := "ytokoadgahflafaagreatdoor", sum := "625bfa2045b0655cec9a6d540a10f3808d5dc96e9073d4bfdf672597dd3cf028", checked := Tryz.checked }
namespace Rows
def none {H : Type} : Left H := { results := [], args := [] }

/- WHAT THE LISTED PACKAGE-LEVEL VARIABLES READ AS WHEN THE CALL BEGINS. Each datum BY PROGRAM (the guide's laid-datum.mjs) off the statement by which the dump's own 'gosem.cut.vars' lays the variable. In a bare row this is a premise. The card (YtokoadgahflafaaGreatDoorCards.lean) ties it to the program's text. -/
def laid_math_bits_deBruijn64tab {H : Type} : DataW H := .agg [.lit (.int .u8 0), .lit (.int .u8 1), .lit (.int .u8 56), .lit (.int .u8 2), .lit (.int .u8 57), .lit (.int .u8 49), .lit (.int .u8 28), .lit (.int .u8 3), .lit (.int .u8 61), .lit (.int .u8 58), .lit (.int .u8 42), .lit (.int .u8 50), .lit (.int .u8 38), .lit (.int .u8 29), .lit (.int .u8 17), .lit (.int .u8 4), .lit (.int .u8 62), .lit (.int .u8 47), .lit (.int .u8 59), .lit (.int .u8 36), .lit (.int .u8 45), .lit (.int .u8 43), .lit (.int .u8 51), .lit (.int .u8 22), .lit (.int .u8 53), .lit (.int .u8 39), .lit (.int .u8 33), .lit (.int .u8 30), .lit (.int .u8 24), .lit (.int .u8 18), .lit (.int .u8 12), .lit (.int .u8 5), .lit (.int .u8 63), .lit (.int .u8 55), .lit (.int .u8 48), .lit (.int .u8 27), .lit (.int .u8 60), .lit (.int .u8 41), .lit (.int .u8 37), .lit (.int .u8 16), .lit (.int .u8 46), .lit (.int .u8 35), .lit (.int .u8 44), .lit (.int .u8 21), .lit (.int .u8 52), .lit (.int .u8 32), .lit (.int .u8 23), .lit (.int .u8 11), .lit (.int .u8 54), .lit (.int .u8 26), .lit (.int .u8 40), .lit (.int .u8 15), .lit (.int .u8 34), .lit (.int .u8 20), .lit (.int .u8 31), .lit (.int .u8 10), .lit (.int .u8 25), .lit (.int .u8 14), .lit (.int .u8 19), .lit (.int .u8 9), .lit (.int .u8 13), .lit (.int .u8 8), .lit (.int .u8 7), .lit (.int .u8 6)]

/-- 'gnomonlaw09.SoftPlays': WHATEVER THE INPUT: true; the input reads as it did. -/
def softPlaysSpec : ChangeSpec := { name := "softPlays", fn := fun _ => fun
  | [d] => { results := [.lit (.bool true)], args := [d] }
  | _ => none }
def softPlaysRow : OpenClaim := { program := "ytokoadgahflafaagreatdoor", sum := "625bfa2045b0655cec9a6d540a10f3808d5dc96e9073d4bfdf672597dd3cf028", func := "gnomon/gnomonlaw09.SoftPlays", spec := "softPlays", inPlace := ["math/bits.Add64", "math/bits.Sub64"], unfollowed := true, recurses := true, named := ["math/bits.deBruijn64tab", "math/bits.divideError", "math/bits.overflowError"], apart := false, laid := [("math/bits.deBruijn64tab", laid_math_bits_deBruijn64tab)] }
def SoftPlaysSaid : Prop := softPlaysRow.holds Tryz.pinned (OpenSpec.ofChange softPlaysSpec)

/-- ITS FALSE NEIGHBOUR: 'it returns false'. Refute it at one input. -/
def softPlaysWrong : ChangeSpec := { name := "softPlays", fn := fun _ => fun
  | [d] => { results := [.lit (.bool false)], args := [d] }
  | _ => none }
def SoftPlaysWrongFalsely : Prop := softPlaysRow.holds Tryz.pinned (OpenSpec.ofChange softPlaysWrong)

/-- 'gnomonlaw09.SoftFixed': WHATEVER THE INPUT: true; the input reads as it did. -/
def softFixedSpec : ChangeSpec := { name := "softFixed", fn := fun _ => fun
  | [] => { results := [.lit (.bool true)], args := [] }
  | _ => none }
def softFixedRow : OpenClaim := { program := "ytokoadgahflafaagreatdoor", sum := "625bfa2045b0655cec9a6d540a10f3808d5dc96e9073d4bfdf672597dd3cf028", func := "gnomon/gnomonlaw09.SoftFixed", spec := "softFixed", inPlace := ["math/bits.Add64", "math/bits.Sub64"], unfollowed := true, recurses := true, named := ["math/bits.deBruijn64tab", "math/bits.divideError", "math/bits.overflowError"], apart := false, laid := [("math/bits.deBruijn64tab", laid_math_bits_deBruijn64tab)] }
def SoftFixedSaid : Prop := softFixedRow.holds Tryz.pinned (OpenSpec.ofChange softFixedSpec)

/-- ITS FALSE NEIGHBOUR: 'it returns false'. Refute it at one input. -/
def softFixedWrong : ChangeSpec := { name := "softFixed", fn := fun _ => fun
  | [] => { results := [.lit (.bool false)], args := [] }
  | _ => none }
def SoftFixedWrongFalsely : Prop := softFixedRow.holds Tryz.pinned (OpenSpec.ofChange softFixedWrong)

/-- 'gnomonlaw09.SoftNearest': WHATEVER THE INPUT: true; the input reads as it did. -/
def softNearestSpec : ChangeSpec := { name := "softNearest", fn := fun _ => fun
  | [d1, d2, d3, d4] => { results := [.lit (.bool true)], args := [d1, d2, d3, d4] }
  | _ => none }
def softNearestRow : OpenClaim := { program := "ytokoadgahflafaagreatdoor", sum := "625bfa2045b0655cec9a6d540a10f3808d5dc96e9073d4bfdf672597dd3cf028", func := "gnomon/gnomonlaw09.SoftNearest", spec := "softNearest", inPlace := ["math/bits.Add64", "math/bits.Sub64"], unfollowed := true, recurses := true, named := ["math/bits.deBruijn64tab", "math/bits.divideError", "math/bits.overflowError"], apart := false, laid := [("math/bits.deBruijn64tab", laid_math_bits_deBruijn64tab)] }
def SoftNearestSaid : Prop := softNearestRow.holds Tryz.pinned (OpenSpec.ofChange softNearestSpec)

/-- ITS FALSE NEIGHBOUR: 'it returns false'. Refute it at one input. -/
def softNearestWrong : ChangeSpec := { name := "softNearest", fn := fun _ => fun
  | [d1, d2, d3, d4] => { results := [.lit (.bool false)], args := [d1, d2, d3, d4] }
  | _ => none }
def SoftNearestWrongFalsely : Prop := softNearestRow.holds Tryz.pinned (OpenSpec.ofChange softNearestWrong)

/-- 'gnomonlaw09.SoftSterbenz': WHATEVER THE INPUT: true; the input reads as it did. -/
def softSterbenzSpec : ChangeSpec := { name := "softSterbenz", fn := fun _ => fun
  | [d1, d2, d3] => { results := [.lit (.bool true)], args := [d1, d2, d3] }
  | _ => none }
def softSterbenzRow : OpenClaim := { program := "ytokoadgahflafaagreatdoor", sum := "625bfa2045b0655cec9a6d540a10f3808d5dc96e9073d4bfdf672597dd3cf028", func := "gnomon/gnomonlaw09.SoftSterbenz", spec := "softSterbenz", inPlace := ["math/bits.Add64", "math/bits.Sub64"], unfollowed := true, recurses := true, named := ["math/bits.deBruijn64tab", "math/bits.divideError", "math/bits.overflowError"], apart := false, laid := [("math/bits.deBruijn64tab", laid_math_bits_deBruijn64tab)] }
def SoftSterbenzSaid : Prop := softSterbenzRow.holds Tryz.pinned (OpenSpec.ofChange softSterbenzSpec)

/-- ITS FALSE NEIGHBOUR: 'it returns false'. Refute it at one input. -/
def softSterbenzWrong : ChangeSpec := { name := "softSterbenz", fn := fun _ => fun
  | [d1, d2, d3] => { results := [.lit (.bool false)], args := [d1, d2, d3] }
  | _ => none }
def SoftSterbenzWrongFalsely : Prop := softSterbenzRow.holds Tryz.pinned (OpenSpec.ofChange softSterbenzWrong)

/-- 'gnomonlaw09.SoftErrors': WHATEVER THE INPUT: true; the input reads as it did. -/
def softErrorsSpec : ChangeSpec := { name := "softErrors", fn := fun _ => fun
  | [d1, d2, d3] => { results := [.lit (.bool true)], args := [d1, d2, d3] }
  | _ => none }
def softErrorsRow : OpenClaim := { program := "ytokoadgahflafaagreatdoor", sum := "625bfa2045b0655cec9a6d540a10f3808d5dc96e9073d4bfdf672597dd3cf028", func := "gnomon/gnomonlaw09.SoftErrors", spec := "softErrors", inPlace := ["math/bits.Add64", "math/bits.Sub64"], unfollowed := true, recurses := true, named := ["math/bits.deBruijn64tab", "math/bits.divideError", "math/bits.overflowError"], apart := false, laid := [("math/bits.deBruijn64tab", laid_math_bits_deBruijn64tab)] }
def SoftErrorsSaid : Prop := softErrorsRow.holds Tryz.pinned (OpenSpec.ofChange softErrorsSpec)

/-- ITS FALSE NEIGHBOUR: 'it returns false'. Refute it at one input. -/
def softErrorsWrong : ChangeSpec := { name := "softErrors", fn := fun _ => fun
  | [d1, d2, d3] => { results := [.lit (.bool false)], args := [d1, d2, d3] }
  | _ => none }
def SoftErrorsWrongFalsely : Prop := softErrorsRow.holds Tryz.pinned (OpenSpec.ofChange softErrorsWrong)

/-- 'gnomonlaw09.SoftOrders': WHATEVER THE INPUT: true; the input reads as it did. -/
def softOrdersSpec : ChangeSpec := { name := "softOrders", fn := fun _ => fun
  | [d1, d2, d3, d4] => { results := [.lit (.bool true)], args := [d1, d2, d3, d4] }
  | _ => none }
def softOrdersRow : OpenClaim := { program := "ytokoadgahflafaagreatdoor", sum := "625bfa2045b0655cec9a6d540a10f3808d5dc96e9073d4bfdf672597dd3cf028", func := "gnomon/gnomonlaw09.SoftOrders", spec := "softOrders", inPlace := ["math/bits.Add64", "math/bits.Sub64"], unfollowed := true, recurses := true, named := ["math/bits.deBruijn64tab", "math/bits.divideError", "math/bits.overflowError"], apart := false, laid := [("math/bits.deBruijn64tab", laid_math_bits_deBruijn64tab)] }
def SoftOrdersSaid : Prop := softOrdersRow.holds Tryz.pinned (OpenSpec.ofChange softOrdersSpec)

/-- ITS FALSE NEIGHBOUR: 'it returns false'. Refute it at one input. -/
def softOrdersWrong : ChangeSpec := { name := "softOrders", fn := fun _ => fun
  | [d1, d2, d3, d4] => { results := [.lit (.bool false)], args := [d1, d2, d3, d4] }
  | _ => none }
def SoftOrdersWrongFalsely : Prop := softOrdersRow.holds Tryz.pinned (OpenSpec.ofChange softOrdersWrong)

/-- 'gnomonlaw09.SoftTwins': WHATEVER THE INPUT: true; the input reads as it did. -/
def softTwinsSpec : ChangeSpec := { name := "softTwins", fn := fun _ => fun
  | [d1, d2, d3] => { results := [.lit (.bool true)], args := [d1, d2, d3] }
  | _ => none }
def softTwinsRow : OpenClaim := { program := "ytokoadgahflafaagreatdoor", sum := "625bfa2045b0655cec9a6d540a10f3808d5dc96e9073d4bfdf672597dd3cf028", func := "gnomon/gnomonlaw09.SoftTwins", spec := "softTwins", inPlace := ["math/bits.Add64", "math/bits.Sub64"], unfollowed := true, recurses := true, named := ["math/bits.deBruijn64tab", "math/bits.divideError", "math/bits.overflowError"], apart := false, laid := [("math/bits.deBruijn64tab", laid_math_bits_deBruijn64tab)] }
def SoftTwinsSaid : Prop := softTwinsRow.holds Tryz.pinned (OpenSpec.ofChange softTwinsSpec)

/-- ITS FALSE NEIGHBOUR: 'it returns false'. Refute it at one input. -/
def softTwinsWrong : ChangeSpec := { name := "softTwins", fn := fun _ => fun
  | [d1, d2, d3] => { results := [.lit (.bool false)], args := [d1, d2, d3] }
  | _ => none }
def SoftTwinsWrongFalsely : Prop := softTwinsRow.holds Tryz.pinned (OpenSpec.ofChange softTwinsWrong)

/-- 'gnomonlaw09.SoftRootOfSquare': WHATEVER THE INPUT: true; the input reads as it did. -/
def softRootOfSquareSpec : ChangeSpec := { name := "softRootOfSquare", fn := fun _ => fun
  | [d1, d2] => { results := [.lit (.bool true)], args := [d1, d2] }
  | _ => none }
def softRootOfSquareRow : OpenClaim := { program := "ytokoadgahflafaagreatdoor", sum := "625bfa2045b0655cec9a6d540a10f3808d5dc96e9073d4bfdf672597dd3cf028", func := "gnomon/gnomonlaw09.SoftRootOfSquare", spec := "softRootOfSquare", inPlace := ["math/bits.Add64", "math/bits.Sub64"], unfollowed := true, recurses := true, named := ["math/bits.deBruijn64tab", "math/bits.divideError", "math/bits.overflowError"], apart := false, laid := [("math/bits.deBruijn64tab", laid_math_bits_deBruijn64tab)] }
def SoftRootOfSquareSaid : Prop := softRootOfSquareRow.holds Tryz.pinned (OpenSpec.ofChange softRootOfSquareSpec)

/-- ITS FALSE NEIGHBOUR: 'it returns false'. Refute it at one input. -/
def softRootOfSquareWrong : ChangeSpec := { name := "softRootOfSquare", fn := fun _ => fun
  | [d1, d2] => { results := [.lit (.bool false)], args := [d1, d2] }
  | _ => none }
def SoftRootOfSquareWrongFalsely : Prop := softRootOfSquareRow.holds Tryz.pinned (OpenSpec.ofChange softRootOfSquareWrong)

/-- 'gnomonlaw09.SoftMachine': WHATEVER THE INPUT: true; the input reads as it did. -/
def softMachineSpec : ChangeSpec := { name := "softMachine", fn := fun _ => fun
  | [d1, d2] => { results := [.lit (.bool true)], args := [d1, d2] }
  | _ => none }
def softMachineRow : OpenClaim := { program := "ytokoadgahflafaagreatdoor", sum := "625bfa2045b0655cec9a6d540a10f3808d5dc96e9073d4bfdf672597dd3cf028", func := "gnomon/gnomonlaw09.SoftMachine", spec := "softMachine", inPlace := ["math/bits.Add64", "math/bits.Sub64", "math.Float64frombits", "math.Float64bits"], unfollowed := true, recurses := true, named := ["math/bits.deBruijn64tab", "math/bits.divideError", "math/bits.overflowError"], apart := false, laid := [("math/bits.deBruijn64tab", laid_math_bits_deBruijn64tab)] }
def SoftMachineSaid : Prop := softMachineRow.holds Tryz.pinned (OpenSpec.ofChange softMachineSpec)

/-- ITS FALSE NEIGHBOUR: 'it returns false'. Refute it at one input. -/
def softMachineWrong : ChangeSpec := { name := "softMachine", fn := fun _ => fun
  | [d1, d2] => { results := [.lit (.bool false)], args := [d1, d2] }
  | _ => none }
def SoftMachineWrongFalsely : Prop := softMachineRow.holds Tryz.pinned (OpenSpec.ofChange softMachineWrong)

/-- 'gnomonlaw09.SoftThroughDouble': WHATEVER THE INPUT: true; the input reads as it did. -/
def softThroughDoubleSpec : ChangeSpec := { name := "softThroughDouble", fn := fun _ => fun
  | [d1, d2] => { results := [.lit (.bool true)], args := [d1, d2] }
  | _ => none }
def softThroughDoubleRow : OpenClaim := { program := "ytokoadgahflafaagreatdoor", sum := "625bfa2045b0655cec9a6d540a10f3808d5dc96e9073d4bfdf672597dd3cf028", func := "gnomon/gnomonlaw09.SoftThroughDouble", spec := "softThroughDouble", inPlace := ["math/bits.Add64", "math/bits.Sub64"], unfollowed := true, recurses := true, named := ["math/bits.deBruijn64tab", "math/bits.divideError", "math/bits.overflowError"], apart := false, laid := [("math/bits.deBruijn64tab", laid_math_bits_deBruijn64tab)] }
def SoftThroughDoubleSaid : Prop := softThroughDoubleRow.holds Tryz.pinned (OpenSpec.ofChange softThroughDoubleSpec)

/-- ITS FALSE NEIGHBOUR: 'it returns false'. Refute it at one input. -/
def softThroughDoubleWrong : ChangeSpec := { name := "softThroughDouble", fn := fun _ => fun
  | [d1, d2] => { results := [.lit (.bool false)], args := [d1, d2] }
  | _ => none }
def SoftThroughDoubleWrongFalsely : Prop := softThroughDoubleRow.holds Tryz.pinned (OpenSpec.ofChange softThroughDoubleWrong)

/-- 'gnomonlaw19.EftSoft': WHATEVER THE INPUT: true; the input reads as it did. -/
def eftSoftSpec : ChangeSpec := { name := "eftSoft", fn := fun _ => fun
  | [d1, d2] => { results := [.lit (.bool true)], args := [d1, d2] }
  | _ => none }
def eftSoftRow : OpenClaim := { program := "ytokoadgahflafaagreatdoor", sum := "625bfa2045b0655cec9a6d540a10f3808d5dc96e9073d4bfdf672597dd3cf028", func := "gnomon/gnomonlaw19.EftSoft", spec := "eftSoft", inPlace := ["math.Float64frombits", "math.Float64bits", "math/bits.Add64", "math/bits.Sub64"], unfollowed := true, recurses := true, named := ["math/bits.deBruijn64tab"], apart := false, laid := [("math/bits.deBruijn64tab", laid_math_bits_deBruijn64tab)] }
def EftSoftSaid : Prop := eftSoftRow.holds Tryz.pinned (OpenSpec.ofChange eftSoftSpec)

/-- ITS FALSE NEIGHBOUR: 'it returns false'. Refute it at one input. -/
def eftSoftWrong : ChangeSpec := { name := "eftSoft", fn := fun _ => fun
  | [d1, d2] => { results := [.lit (.bool false)], args := [d1, d2] }
  | _ => none }
def EftSoftWrongFalsely : Prop := eftSoftRow.holds Tryz.pinned (OpenSpec.ofChange eftSoftWrong)

/- THE SECOND FORM. 'bulk': how many values and letters a reading holds, each counted each time it is reached (what is shared counts as often as it is met; a slice's spare places count too). A statement '..UptoSaid' is the law's where the arguments, and the package variables that the reading takes, are together of bulk at most 1048576: NARROWER than '..Said'. Prove '..Said' where nothing that the law and all that it calls make is longer than what came in: it says more and counts as full. Else prove '..UptoSaid'. A law counts once. -/
mutual
def uptoBulk {H : Type} : DataW H → Nat
  | .lit (.string bytes) => bytes.length + 1
  | .lit _ => 1
  | .nil => 1
  | .ptr d => uptoBulk d + 1
  | .slice elems spare => uptoBulkAll elems + uptoBulkAll spare + 1
  | .agg parts => uptoBulkAll parts + 1
  | .iface _ d => uptoBulk d + 1
  | .map entries => uptoBulkEntries entries + 1
  | .held _ => 1
def uptoBulkAll {H : Type} : List (DataW H) → Nat
  | [] => 0
  | d :: r => uptoBulk d + uptoBulkAll r
def uptoBulkEntries {H : Type} : List (Lit × DataW H) → Nat
  | [] => 0
  | x :: r => uptoBulkEntry x + uptoBulkEntries r
def uptoBulkEntry {H : Type} : Lit × DataW H → Nat
  | (.string bytes, d) => bytes.length + uptoBulk d + 1
  | (_, d) => uptoBulk d + 1
 end
def uptoSmall : (H : Type) → List (DataW H) → Bool := fun _ ds => decide (uptoBulkAll ds ≤ 1048576)
def OpenSpec.upto (s : _root_.Go.ChangeSpec) : _root_.Go.OpenSpec := { _root_.Go.OpenSpec.ofChange s with cond := some uptoSmall }

/-- 'gnomonlaw09.SoftPlays', WHERE WHAT IT READS IS OF BULK AT MOST 1048576: true; the input reads as it did. -/
def softPlaysUptoRow : OpenClaim := { program := "ytokoadgahflafaagreatdoor", sum := "625bfa2045b0655cec9a6d540a10f3808d5dc96e9073d4bfdf672597dd3cf028", func := "gnomon/gnomonlaw09.SoftPlays", spec := "softPlays", inPlace := ["math/bits.Add64", "math/bits.Sub64"], unfollowed := true, recurses := true, named := ["math/bits.deBruijn64tab", "math/bits.divideError", "math/bits.overflowError"], apart := false, laid := [("math/bits.deBruijn64tab", laid_math_bits_deBruijn64tab)], narrowed := true }
def SoftPlaysUptoSaid : Prop := softPlaysUptoRow.holds Tryz.pinned (OpenSpec.upto softPlaysSpec)

/-- 'gnomonlaw09.SoftFixed', WHERE WHAT IT READS IS OF BULK AT MOST 1048576: true; the input reads as it did. -/
def softFixedUptoRow : OpenClaim := { program := "ytokoadgahflafaagreatdoor", sum := "625bfa2045b0655cec9a6d540a10f3808d5dc96e9073d4bfdf672597dd3cf028", func := "gnomon/gnomonlaw09.SoftFixed", spec := "softFixed", inPlace := ["math/bits.Add64", "math/bits.Sub64"], unfollowed := true, recurses := true, named := ["math/bits.deBruijn64tab", "math/bits.divideError", "math/bits.overflowError"], apart := false, laid := [("math/bits.deBruijn64tab", laid_math_bits_deBruijn64tab)], narrowed := true }
def SoftFixedUptoSaid : Prop := softFixedUptoRow.holds Tryz.pinned (OpenSpec.upto softFixedSpec)

/-- 'gnomonlaw09.SoftNearest', WHERE WHAT IT READS IS OF BULK AT MOST 1048576: true; the input reads as it did. -/
def softNearestUptoRow : OpenClaim := { program := "ytokoadgahflafaagreatdoor", sum := "625bfa2045b0655cec9a6d540a10f3808d5dc96e9073d4bfdf672597dd3cf028", func := "gnomon/gnomonlaw09.SoftNearest", spec := "softNearest", inPlace := ["math/bits.Add64", "math/bits.Sub64"], unfollowed := true, recurses := true, named := ["math/bits.deBruijn64tab", "math/bits.divideError", "math/bits.overflowError"], apart := false, laid := [("math/bits.deBruijn64tab", laid_math_bits_deBruijn64tab)], narrowed := true }
def SoftNearestUptoSaid : Prop := softNearestUptoRow.holds Tryz.pinned (OpenSpec.upto softNearestSpec)

/-- 'gnomonlaw09.SoftSterbenz', WHERE WHAT IT READS IS OF BULK AT MOST 1048576: true; the input reads as it did. -/
def softSterbenzUptoRow : OpenClaim := { program := "ytokoadgahflafaagreatdoor", sum := "625bfa2045b0655cec9a6d540a10f3808d5dc96e9073d4bfdf672597dd3cf028", func := "gnomon/gnomonlaw09.SoftSterbenz", spec := "softSterbenz", inPlace := ["math/bits.Add64", "math/bits.Sub64"], unfollowed := true, recurses := true, named := ["math/bits.deBruijn64tab", "math/bits.divideError", "math/bits.overflowError"], apart := false, laid := [("math/bits.deBruijn64tab", laid_math_bits_deBruijn64tab)], narrowed := true }
def SoftSterbenzUptoSaid : Prop := softSterbenzUptoRow.holds Tryz.pinned (OpenSpec.upto softSterbenzSpec)

/-- 'gnomonlaw09.SoftErrors', WHERE WHAT IT READS IS OF BULK AT MOST 1048576: true; the input reads as it did. -/
def softErrorsUptoRow : OpenClaim := { program := "ytokoadgahflafaagreatdoor", sum := "625bfa2045b0655cec9a6d540a10f3808d5dc96e9073d4bfdf672597dd3cf028", func := "gnomon/gnomonlaw09.SoftErrors", spec := "softErrors", inPlace := ["math/bits.Add64", "math/bits.Sub64"], unfollowed := true, recurses := true, named := ["math/bits.deBruijn64tab", "math/bits.divideError", "math/bits.overflowError"], apart := false, laid := [("math/bits.deBruijn64tab", laid_math_bits_deBruijn64tab)], narrowed := true }
def SoftErrorsUptoSaid : Prop := softErrorsUptoRow.holds Tryz.pinned (OpenSpec.upto softErrorsSpec)

/-- 'gnomonlaw09.SoftOrders', WHERE WHAT IT READS IS OF BULK AT MOST 1048576: true; the input reads as it did. -/
def softOrdersUptoRow : OpenClaim := { program := "ytokoadgahflafaagreatdoor", sum := "625bfa2045b0655cec9a6d540a10f3808d5dc96e9073d4bfdf672597dd3cf028", func := "gnomon/gnomonlaw09.SoftOrders", spec := "softOrders", inPlace := ["math/bits.Add64", "math/bits.Sub64"], unfollowed := true, recurses := true, named := ["math/bits.deBruijn64tab", "math/bits.divideError", "math/bits.overflowError"], apart := false, laid := [("math/bits.deBruijn64tab", laid_math_bits_deBruijn64tab)], narrowed := true }
def SoftOrdersUptoSaid : Prop := softOrdersUptoRow.holds Tryz.pinned (OpenSpec.upto softOrdersSpec)

/-- 'gnomonlaw09.SoftTwins', WHERE WHAT IT READS IS OF BULK AT MOST 1048576: true; the input reads as it did. -/
def softTwinsUptoRow : OpenClaim := { program := "ytokoadgahflafaagreatdoor", sum := "625bfa2045b0655cec9a6d540a10f3808d5dc96e9073d4bfdf672597dd3cf028", func := "gnomon/gnomonlaw09.SoftTwins", spec := "softTwins", inPlace := ["math/bits.Add64", "math/bits.Sub64"], unfollowed := true, recurses := true, named := ["math/bits.deBruijn64tab", "math/bits.divideError", "math/bits.overflowError"], apart := false, laid := [("math/bits.deBruijn64tab", laid_math_bits_deBruijn64tab)], narrowed := true }
def SoftTwinsUptoSaid : Prop := softTwinsUptoRow.holds Tryz.pinned (OpenSpec.upto softTwinsSpec)

/-- 'gnomonlaw09.SoftRootOfSquare', WHERE WHAT IT READS IS OF BULK AT MOST 1048576: true; the input reads as it did. -/
def softRootOfSquareUptoRow : OpenClaim := { program := "ytokoadgahflafaagreatdoor", sum := "625bfa2045b0655cec9a6d540a10f3808d5dc96e9073d4bfdf672597dd3cf028", func := "gnomon/gnomonlaw09.SoftRootOfSquare", spec := "softRootOfSquare", inPlace := ["math/bits.Add64", "math/bits.Sub64"], unfollowed := true, recurses := true, named := ["math/bits.deBruijn64tab", "math/bits.divideError", "math/bits.overflowError"], apart := false, laid := [("math/bits.deBruijn64tab", laid_math_bits_deBruijn64tab)], narrowed := true }
def SoftRootOfSquareUptoSaid : Prop := softRootOfSquareUptoRow.holds Tryz.pinned (OpenSpec.upto softRootOfSquareSpec)

/-- 'gnomonlaw09.SoftMachine', WHERE WHAT IT READS IS OF BULK AT MOST 1048576: true; the input reads as it did. -/
def softMachineUptoRow : OpenClaim := { program := "ytokoadgahflafaagreatdoor", sum := "625bfa2045b0655cec9a6d540a10f3808d5dc96e9073d4bfdf672597dd3cf028", func := "gnomon/gnomonlaw09.SoftMachine", spec := "softMachine", inPlace := ["math/bits.Add64", "math/bits.Sub64", "math.Float64frombits", "math.Float64bits"], unfollowed := true, recurses := true, named := ["math/bits.deBruijn64tab", "math/bits.divideError", "math/bits.overflowError"], apart := false, laid := [("math/bits.deBruijn64tab", laid_math_bits_deBruijn64tab)], narrowed := true }
def SoftMachineUptoSaid : Prop := softMachineUptoRow.holds Tryz.pinned (OpenSpec.upto softMachineSpec)

/-- 'gnomonlaw09.SoftThroughDouble', WHERE WHAT IT READS IS OF BULK AT MOST 1048576: true; the input reads as it did. -/
def softThroughDoubleUptoRow : OpenClaim := { program := "ytokoadgahflafaagreatdoor", sum := "625bfa2045b0655cec9a6d540a10f3808d5dc96e9073d4bfdf672597dd3cf028", func := "gnomon/gnomonlaw09.SoftThroughDouble", spec := "softThroughDouble", inPlace := ["math/bits.Add64", "math/bits.Sub64"], unfollowed := true, recurses := true, named := ["math/bits.deBruijn64tab", "math/bits.divideError", "math/bits.overflowError"], apart := false, laid := [("math/bits.deBruijn64tab", laid_math_bits_deBruijn64tab)], narrowed := true }
def SoftThroughDoubleUptoSaid : Prop := softThroughDoubleUptoRow.holds Tryz.pinned (OpenSpec.upto softThroughDoubleSpec)

/-- 'gnomonlaw19.EftSoft', WHERE WHAT IT READS IS OF BULK AT MOST 1048576: true; the input reads as it did. -/
def eftSoftUptoRow : OpenClaim := { program := "ytokoadgahflafaagreatdoor", sum := "625bfa2045b0655cec9a6d540a10f3808d5dc96e9073d4bfdf672597dd3cf028", func := "gnomon/gnomonlaw19.EftSoft", spec := "eftSoft", inPlace := ["math.Float64frombits", "math.Float64bits", "math/bits.Add64", "math/bits.Sub64"], unfollowed := true, recurses := true, named := ["math/bits.deBruijn64tab"], apart := false, laid := [("math/bits.deBruijn64tab", laid_math_bits_deBruijn64tab)], narrowed := true }
def EftSoftUptoSaid : Prop := eftSoftUptoRow.holds Tryz.pinned (OpenSpec.upto eftSoftSpec)

end Rows
end Go.Proofs.YtokoadgahflafaaGreatDoor
