/-
  NARROWER THAN 'FOR EVERY INPUT', by the rows' own cells (each row's printed sentence says how): DdForms: laid · DdSums: laid · DdMuls: laid · DdDivs: laid · DdFloats: laid · DdByDyadics: laid.
  DERIVED. THE GIVEN ROWS OF THIS SEAT. 6 by the template 'for every input the law returns true; each argument reads behind the call as it read before'; 0 by the template 'total and deterministic' (their statements: YtapikmfckpgjoaaGreatDoorTotals.lean).
  GIVEN WITH THE SEED: the statements are not yours to turn. If you find one false, say at which input.
  Laid BY PROGRAM, IN A SANDBOX (cutbox-rows.mjs): the forced cells as the released guide's own fill.sh prints them over the translation 9e3f45955b4f50cc… (all of the seat's roots in one cut). By AI agents, Wed Nov 11 2026. No macro, syntax, notation, axiom, sorry.
-/
import Derived.Test.YtapikmfckpgjoaaGreatDoorChecked
import GoSem.Claim
import GoSem.ClaimJoined
import GoSem.ClaimMapViews
import Derived.JoinedTies
import Derived.KernelRfl
namespace Go.Proofs.YtapikmfckpgjoaaGreatDoor
/- THE CELL 'sum', in the pinned program and in every row, IS THE sha256 OF THE DUMP (.gsa) THAT YtapikmfckpgjoaaGreatDoorProg.lean LOADS. Nothing in Lean hashes anything: it is a label: what it is worth is what the hold of that sum in a sandbox is worth. -/
noncomputable def Tryz.pinned : Pinned := { name := "ytapikmfckpgjoaagreatdoor", sum := "9e3f45955b4f50ccabc97ddfd56b83bd317dba537243981659ac871bbccce0ef", checked := Tryz.checked }
namespace Rows
def none {H : Type} : Left H := { results := [], args := [] }

/- WHAT THE LISTED PACKAGE-LEVEL VARIABLES READ AS WHEN THE CALL BEGINS. Each datum BY PROGRAM (the guide's laid-datum.mjs) off the statement by which the dump's own 'gosem.cut.vars' lays the variable. In a bare row this is a premise. The card (YtapikmfckpgjoaaGreatDoorCards.lean) ties it to the program's text. -/
def laid_math_bits_deBruijn64tab {H : Type} : DataW H := .agg [.lit (.int .u8 0), .lit (.int .u8 1), .lit (.int .u8 56), .lit (.int .u8 2), .lit (.int .u8 57), .lit (.int .u8 49), .lit (.int .u8 28), .lit (.int .u8 3), .lit (.int .u8 61), .lit (.int .u8 58), .lit (.int .u8 42), .lit (.int .u8 50), .lit (.int .u8 38), .lit (.int .u8 29), .lit (.int .u8 17), .lit (.int .u8 4), .lit (.int .u8 62), .lit (.int .u8 47), .lit (.int .u8 59), .lit (.int .u8 36), .lit (.int .u8 45), .lit (.int .u8 43), .lit (.int .u8 51), .lit (.int .u8 22), .lit (.int .u8 53), .lit (.int .u8 39), .lit (.int .u8 33), .lit (.int .u8 30), .lit (.int .u8 24), .lit (.int .u8 18), .lit (.int .u8 12), .lit (.int .u8 5), .lit (.int .u8 63), .lit (.int .u8 55), .lit (.int .u8 48), .lit (.int .u8 27), .lit (.int .u8 60), .lit (.int .u8 41), .lit (.int .u8 37), .lit (.int .u8 16), .lit (.int .u8 46), .lit (.int .u8 35), .lit (.int .u8 44), .lit (.int .u8 21), .lit (.int .u8 52), .lit (.int .u8 32), .lit (.int .u8 23), .lit (.int .u8 11), .lit (.int .u8 54), .lit (.int .u8 26), .lit (.int .u8 40), .lit (.int .u8 15), .lit (.int .u8 34), .lit (.int .u8 20), .lit (.int .u8 31), .lit (.int .u8 10), .lit (.int .u8 25), .lit (.int .u8 14), .lit (.int .u8 19), .lit (.int .u8 9), .lit (.int .u8 13), .lit (.int .u8 8), .lit (.int .u8 7), .lit (.int .u8 6)]

/-- 'gnomonlaw20.DdForms': WHATEVER THE INPUT: true; the input reads as it did. -/
def ddFormsSpec : ChangeSpec := { name := "ddForms", fn := fun _ => fun
  | [d] => { results := [.lit (.bool true)], args := [d] }
  | _ => none }
def ddFormsRow : OpenClaim := { program := "ytapikmfckpgjoaagreatdoor", sum := "9e3f45955b4f50ccabc97ddfd56b83bd317dba537243981659ac871bbccce0ef", func := "gnomon/gnomonlaw20.DdForms", spec := "ddForms", inPlace := ["math.Float64frombits", "math.Float64bits", "math/bits.Add64", "math/bits.Sub64"], named := ["math/bits.deBruijn64tab"], apart := false, laid := [("math/bits.deBruijn64tab", laid_math_bits_deBruijn64tab)] }
def DdFormsSaid : Prop := ddFormsRow.holds Tryz.pinned (OpenSpec.ofChange ddFormsSpec)

/-- ITS FALSE NEIGHBOUR: 'it returns false'. Refute it at one input. -/
def ddFormsWrong : ChangeSpec := { name := "ddForms", fn := fun _ => fun
  | [d] => { results := [.lit (.bool false)], args := [d] }
  | _ => none }
def DdFormsWrongFalsely : Prop := ddFormsRow.holds Tryz.pinned (OpenSpec.ofChange ddFormsWrong)

/-- 'gnomonlaw20.DdSums': WHATEVER THE INPUT: true; the input reads as it did. -/
def ddSumsSpec : ChangeSpec := { name := "ddSums", fn := fun _ => fun
  | [d] => { results := [.lit (.bool true)], args := [d] }
  | _ => none }
def ddSumsRow : OpenClaim := { program := "ytapikmfckpgjoaagreatdoor", sum := "9e3f45955b4f50ccabc97ddfd56b83bd317dba537243981659ac871bbccce0ef", func := "gnomon/gnomonlaw20.DdSums", spec := "ddSums", inPlace := ["math.Float64frombits", "math.Float64bits", "math/bits.Add64", "math/bits.Sub64"], named := ["math/bits.deBruijn64tab"], apart := false, laid := [("math/bits.deBruijn64tab", laid_math_bits_deBruijn64tab)] }
def DdSumsSaid : Prop := ddSumsRow.holds Tryz.pinned (OpenSpec.ofChange ddSumsSpec)

/-- ITS FALSE NEIGHBOUR: 'it returns false'. Refute it at one input. -/
def ddSumsWrong : ChangeSpec := { name := "ddSums", fn := fun _ => fun
  | [d] => { results := [.lit (.bool false)], args := [d] }
  | _ => none }
def DdSumsWrongFalsely : Prop := ddSumsRow.holds Tryz.pinned (OpenSpec.ofChange ddSumsWrong)

/-- 'gnomonlaw20.DdMuls': WHATEVER THE INPUT: true; the input reads as it did. -/
def ddMulsSpec : ChangeSpec := { name := "ddMuls", fn := fun _ => fun
  | [d] => { results := [.lit (.bool true)], args := [d] }
  | _ => none }
def ddMulsRow : OpenClaim := { program := "ytapikmfckpgjoaagreatdoor", sum := "9e3f45955b4f50ccabc97ddfd56b83bd317dba537243981659ac871bbccce0ef", func := "gnomon/gnomonlaw20.DdMuls", spec := "ddMuls", inPlace := ["math.Float64frombits", "math.Float64bits", "math/bits.Add64", "math/bits.Sub64"], named := ["math/bits.deBruijn64tab"], apart := false, laid := [("math/bits.deBruijn64tab", laid_math_bits_deBruijn64tab)] }
def DdMulsSaid : Prop := ddMulsRow.holds Tryz.pinned (OpenSpec.ofChange ddMulsSpec)

/-- ITS FALSE NEIGHBOUR: 'it returns false'. Refute it at one input. -/
def ddMulsWrong : ChangeSpec := { name := "ddMuls", fn := fun _ => fun
  | [d] => { results := [.lit (.bool false)], args := [d] }
  | _ => none }
def DdMulsWrongFalsely : Prop := ddMulsRow.holds Tryz.pinned (OpenSpec.ofChange ddMulsWrong)

/-- 'gnomonlaw20.DdDivs': WHATEVER THE INPUT: true; the input reads as it did. -/
def ddDivsSpec : ChangeSpec := { name := "ddDivs", fn := fun _ => fun
  | [d] => { results := [.lit (.bool true)], args := [d] }
  | _ => none }
def ddDivsRow : OpenClaim := { program := "ytapikmfckpgjoaagreatdoor", sum := "9e3f45955b4f50ccabc97ddfd56b83bd317dba537243981659ac871bbccce0ef", func := "gnomon/gnomonlaw20.DdDivs", spec := "ddDivs", inPlace := ["math.Float64frombits", "math.Float64bits", "math/bits.Add64", "math/bits.Sub64"], named := ["math/bits.deBruijn64tab"], apart := false, laid := [("math/bits.deBruijn64tab", laid_math_bits_deBruijn64tab)] }
def DdDivsSaid : Prop := ddDivsRow.holds Tryz.pinned (OpenSpec.ofChange ddDivsSpec)

/-- ITS FALSE NEIGHBOUR: 'it returns false'. Refute it at one input. -/
def ddDivsWrong : ChangeSpec := { name := "ddDivs", fn := fun _ => fun
  | [d] => { results := [.lit (.bool false)], args := [d] }
  | _ => none }
def DdDivsWrongFalsely : Prop := ddDivsRow.holds Tryz.pinned (OpenSpec.ofChange ddDivsWrong)

/-- 'gnomonlaw20.DdFloats': WHATEVER THE INPUT: true; the input reads as it did. -/
def ddFloatsSpec : ChangeSpec := { name := "ddFloats", fn := fun _ => fun
  | [d1, d2] => { results := [.lit (.bool true)], args := [d1, d2] }
  | _ => none }
def ddFloatsRow : OpenClaim := { program := "ytapikmfckpgjoaagreatdoor", sum := "9e3f45955b4f50ccabc97ddfd56b83bd317dba537243981659ac871bbccce0ef", func := "gnomon/gnomonlaw20.DdFloats", spec := "ddFloats", inPlace := ["math.Float64frombits", "math.Float64bits", "math/bits.Add64", "math/bits.Sub64"], recurses := true, named := ["math/bits.deBruijn64tab"], apart := false, laid := [("math/bits.deBruijn64tab", laid_math_bits_deBruijn64tab)] }
def DdFloatsSaid : Prop := ddFloatsRow.holds Tryz.pinned (OpenSpec.ofChange ddFloatsSpec)

/-- ITS FALSE NEIGHBOUR: 'it returns false'. Refute it at one input. -/
def ddFloatsWrong : ChangeSpec := { name := "ddFloats", fn := fun _ => fun
  | [d1, d2] => { results := [.lit (.bool false)], args := [d1, d2] }
  | _ => none }
def DdFloatsWrongFalsely : Prop := ddFloatsRow.holds Tryz.pinned (OpenSpec.ofChange ddFloatsWrong)

/-- 'gnomonlaw20.DdByDyadics': WHATEVER THE INPUT: true; the input reads as it did. -/
def ddByDyadicsSpec : ChangeSpec := { name := "ddByDyadics", fn := fun _ => fun
  | [d1, d2] => { results := [.lit (.bool true)], args := [d1, d2] }
  | _ => none }
def ddByDyadicsRow : OpenClaim := { program := "ytapikmfckpgjoaagreatdoor", sum := "9e3f45955b4f50ccabc97ddfd56b83bd317dba537243981659ac871bbccce0ef", func := "gnomon/gnomonlaw20.DdByDyadics", spec := "ddByDyadics", inPlace := ["math.Float64frombits", "math.Float64bits", "math/bits.Add64", "math/bits.Sub64"], recurses := true, named := ["math/bits.deBruijn64tab"], apart := false, laid := [("math/bits.deBruijn64tab", laid_math_bits_deBruijn64tab)] }
def DdByDyadicsSaid : Prop := ddByDyadicsRow.holds Tryz.pinned (OpenSpec.ofChange ddByDyadicsSpec)

/-- ITS FALSE NEIGHBOUR: 'it returns false'. Refute it at one input. -/
def ddByDyadicsWrong : ChangeSpec := { name := "ddByDyadics", fn := fun _ => fun
  | [d1, d2] => { results := [.lit (.bool false)], args := [d1, d2] }
  | _ => none }
def DdByDyadicsWrongFalsely : Prop := ddByDyadicsRow.holds Tryz.pinned (OpenSpec.ofChange ddByDyadicsWrong)

/- THE SECOND FORM. 'bulk': how many values and letters a reading holds, each counted each time it is reached (what is shared counts as often as it is met; a slice's spare places count too). A statement '..UptoSaid' is the law's where the arguments, and the package variables that the reading takes, are together of bulk at most 1048576: NARROWER than '..Said'. Prove '..Said' where nothing that the law and all that it calls make is longer than what came in: it says more and counts as full. Else prove '..UptoSaid'. A law counts once. -/
mutual
def uptoBulk {H : Type} : DataW H → Nat
  | .lit (.string bytes) => bytes.length + 1
  | .lit _ => 1
  | .nil => 1
  | .ptr d => uptoBulk d + 1
  | .slice elems spare => uptoBulkAll elems + uptoBulkAll spare + 1
  | .agg parts => uptoBulkAll parts + 1
  | .iface _ d => uptoBulk d + 1
  | .map entries => uptoBulkEntries entries + 1
  | .held _ => 1
def uptoBulkAll {H : Type} : List (DataW H) → Nat
  | [] => 0
  | d :: r => uptoBulk d + uptoBulkAll r
def uptoBulkEntries {H : Type} : List (Lit × DataW H) → Nat
  | [] => 0
  | x :: r => uptoBulkEntry x + uptoBulkEntries r
def uptoBulkEntry {H : Type} : Lit × DataW H → Nat
  | (.string bytes, d) => bytes.length + uptoBulk d + 1
  | (_, d) => uptoBulk d + 1
 end
def uptoSmall : (H : Type) → List (DataW H) → Bool := fun _ ds => decide (uptoBulkAll ds ≤ 1048576)
def OpenSpec.upto (s : _root_.Go.ChangeSpec) : _root_.Go.OpenSpec := { _root_.Go.OpenSpec.ofChange s with cond := some uptoSmall }

/-- 'gnomonlaw20.DdForms', WHERE WHAT IT READS IS OF BULK AT MOST 1048576: true; the input reads as it did. -/
def ddFormsUptoRow : OpenClaim := { program := "ytapikmfckpgjoaagreatdoor", sum := "9e3f45955b4f50ccabc97ddfd56b83bd317dba537243981659ac871bbccce0ef", func := "gnomon/gnomonlaw20.DdForms", spec := "ddForms", inPlace := ["math.Float64frombits", "math.Float64bits", "math/bits.Add64", "math/bits.Sub64"], named := ["math/bits.deBruijn64tab"], apart := false, laid := [("math/bits.deBruijn64tab", laid_math_bits_deBruijn64tab)], narrowed := true }
def DdFormsUptoSaid : Prop := ddFormsUptoRow.holds Tryz.pinned (OpenSpec.upto ddFormsSpec)

/-- 'gnomonlaw20.DdSums', WHERE WHAT IT READS IS OF BULK AT MOST 1048576: true; the input reads as it did. -/
def ddSumsUptoRow : OpenClaim := { program := "ytapikmfckpgjoaagreatdoor", sum := "9e3f45955b4f50ccabc97ddfd56b83bd317dba537243981659ac871bbccce0ef", func := "gnomon/gnomonlaw20.DdSums", spec := "ddSums", inPlace := ["math.Float64frombits", "math.Float64bits", "math/bits.Add64", "math/bits.Sub64"], named := ["math/bits.deBruijn64tab"], apart := false, laid := [("math/bits.deBruijn64tab", laid_math_bits_deBruijn64tab)], narrowed := true }
def DdSumsUptoSaid : Prop := ddSumsUptoRow.holds Tryz.pinned (OpenSpec.upto ddSumsSpec)

/-- 'gnomonlaw20.DdMuls', WHERE WHAT IT READS IS OF BULK AT MOST 1048576: true; the input reads as it did. -/
def ddMulsUptoRow : OpenClaim := { program := "ytapikmfckpgjoaagreatdoor", sum := "9e3f45955b4f50ccabc97ddfd56b83bd317dba537243981659ac871bbccce0ef", func := "gnomon/gnomonlaw20.DdMuls", spec := "ddMuls", inPlace := ["math.Float64frombits", "math.Float64bits", "math/bits.Add64", "math/bits.Sub64"], named := ["math/bits.deBruijn64tab"], apart := false, laid := [("math/bits.deBruijn64tab", laid_math_bits_deBruijn64tab)], narrowed := true }
def DdMulsUptoSaid : Prop := ddMulsUptoRow.holds Tryz.pinned (OpenSpec.upto ddMulsSpec)

/-- 'gnomonlaw20.DdDivs', WHERE WHAT IT READS IS OF BULK AT MOST 1048576: true; the input reads as it did. -/
def ddDivsUptoRow : OpenClaim := { program := "ytapikmfckpgjoaagreatdoor", sum := "9e3f45955b4f50ccabc97ddfd56b83bd317dba537243981659ac871bbccce0ef", func := "gnomon/gnomonlaw20.DdDivs", spec := "ddDivs", inPlace := ["math.Float64frombits", "math.Float64bits", "math/bits.Add64", "math/bits.Sub64"], named := ["math/bits.deBruijn64tab"], apart := false, laid := [("math/bits.deBruijn64tab", laid_math_bits_deBruijn64tab)], narrowed := true }
def DdDivsUptoSaid : Prop := ddDivsUptoRow.holds Tryz.pinned (OpenSpec.upto ddDivsSpec)

/-- 'gnomonlaw20.DdFloats', WHERE WHAT IT READS IS OF BULK AT MOST 1048576: true; the input reads as it did. -/
def ddFloatsUptoRow : OpenClaim := { program := "ytapikmfckpgjoaagreatdoor", sum := "9e3f45955b4f50ccabc97ddfd56b83bd317dba537243981659ac871bbccce0ef", func := "gnomon/gnomonlaw20.DdFloats", spec := "ddFloats", inPlace := ["math.Float64frombits", "math.Float64bits", "math/bits.Add64", "math/bits.Sub64"], recurses := true, named := ["math/bits.deBruijn64tab"], apart := false, laid := [("math/bits.deBruijn64tab", laid_math_bits_deBruijn64tab)], narrowed := true }
def DdFloatsUptoSaid : Prop := ddFloatsUptoRow.holds Tryz.pinned (OpenSpec.upto ddFloatsSpec)

/-- 'gnomonlaw20.DdByDyadics', WHERE WHAT IT READS IS OF BULK AT MOST 1048576: true; the input reads as it did. -/
def ddByDyadicsUptoRow : OpenClaim := { program := "ytapikmfckpgjoaagreatdoor", sum := "9e3f45955b4f50ccabc97ddfd56b83bd317dba537243981659ac871bbccce0ef", func := "gnomon/gnomonlaw20.DdByDyadics", spec := "ddByDyadics", inPlace := ["math.Float64frombits", "math.Float64bits", "math/bits.Add64", "math/bits.Sub64"], recurses := true, named := ["math/bits.deBruijn64tab"], apart := false, laid := [("math/bits.deBruijn64tab", laid_math_bits_deBruijn64tab)], narrowed := true }
def DdByDyadicsUptoSaid : Prop := ddByDyadicsUptoRow.holds Tryz.pinned (OpenSpec.upto ddByDyadicsSpec)

end Rows
end Go.Proofs.YtapikmfckpgjoaaGreatDoor
