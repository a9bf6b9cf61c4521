/-
  No cell of these rows narrows 'for every input' (looked for: loops, veiled, ifaces, maps, wideKeys, modest, calm, conditions, laid).
  DERIVED. THE GIVEN ROWS OF THIS SEAT. 15 by the template 'for every input the law returns true; each argument reads behind the call as it read before'; 0 by the template 'total and deterministic' (their statements: YtbgmadijifefiaaTotals.lean).
  GIVEN WITH THE SEED: the statements are not yours to turn. If you find one false, say at which input.
  Laid BY PROGRAM, IN A SANDBOX (cutbox-rows.mjs): the forced cells as the released guide's own fill.sh prints them over the translation 7447c080a570d76b… (all of the seat's roots in one cut). By AI agents, Wed Nov 11 2026. No macro, syntax, notation, axiom, sorry.
-/
import Derived.Test.YtbgmadijifefiaaChecked
import GoSem.Claim
import GoSem.ClaimJoined
import GoSem.ClaimMapViews
import Derived.JoinedTies
import Derived.KernelRfl
namespace Go.Proofs.Ytbgmadijifefiaa
/- THE CELL 'sum', in the pinned program and in every row, IS THE sha256 OF THE DUMP (.gsa) THAT YtbgmadijifefiaaProg.lean LOADS. Nothing in Lean hashes anything: it is a label: what it is worth is what the hold of that sum in a sandbox is worth. -/
noncomputable def Try.pinned : Pinned := { name := "ytbgmadijifefiaa", sum := "7447c080a570d76bed9d3119d7223f49caf69ec6f5f6dbac4cc95e236fe202ce", checked := Try.checked }
namespace Rows
def none {H : Type} : Left H := { results := [], args := [] }

/-- 'gnomonlaw19.EftSums': WHATEVER THE INPUT: true; the input reads as it did. -/
def eftSumsSpec : ChangeSpec := { name := "eftSums", fn := fun _ => fun
  | [d1, d2] => { results := [.lit (.bool true)], args := [d1, d2] }
  | _ => none }
def eftSumsRow : OpenClaim := { program := "ytbgmadijifefiaa", sum := "7447c080a570d76bed9d3119d7223f49caf69ec6f5f6dbac4cc95e236fe202ce", func := "gnomon/gnomonlaw19.EftSums", spec := "eftSums", inPlace := ["math.Float64frombits", "math.Float64bits"], apart := false }
def EftSumsSaid : Prop := eftSumsRow.holds Try.pinned (OpenSpec.ofChange eftSumsSpec)

/-- ITS FALSE NEIGHBOUR: 'it returns false'. Refute it at one input. -/
def eftSumsWrong : ChangeSpec := { name := "eftSums", fn := fun _ => fun
  | [d1, d2] => { results := [.lit (.bool false)], args := [d1, d2] }
  | _ => none }
def EftSumsWrongFalsely : Prop := eftSumsRow.holds Try.pinned (OpenSpec.ofChange eftSumsWrong)

/-- 'gnomonlaw19.EftFasts': WHATEVER THE INPUT: true; the input reads as it did. -/
def eftFastsSpec : ChangeSpec := { name := "eftFasts", fn := fun _ => fun
  | [d1, d2] => { results := [.lit (.bool true)], args := [d1, d2] }
  | _ => none }
def eftFastsRow : OpenClaim := { program := "ytbgmadijifefiaa", sum := "7447c080a570d76bed9d3119d7223f49caf69ec6f5f6dbac4cc95e236fe202ce", func := "gnomon/gnomonlaw19.EftFasts", spec := "eftFasts", inPlace := ["math.Float64frombits", "math.Float64bits"], apart := false }
def EftFastsSaid : Prop := eftFastsRow.holds Try.pinned (OpenSpec.ofChange eftFastsSpec)

/-- ITS FALSE NEIGHBOUR: 'it returns false'. Refute it at one input. -/
def eftFastsWrong : ChangeSpec := { name := "eftFasts", fn := fun _ => fun
  | [d1, d2] => { results := [.lit (.bool false)], args := [d1, d2] }
  | _ => none }
def EftFastsWrongFalsely : Prop := eftFastsRow.holds Try.pinned (OpenSpec.ofChange eftFastsWrong)

/-- 'gnomonlaw19.EftSplits': WHATEVER THE INPUT: true; the input reads as it did. -/
def eftSplitsSpec : ChangeSpec := { name := "eftSplits", fn := fun _ => fun
  | [d] => { results := [.lit (.bool true)], args := [d] }
  | _ => none }
def eftSplitsRow : OpenClaim := { program := "ytbgmadijifefiaa", sum := "7447c080a570d76bed9d3119d7223f49caf69ec6f5f6dbac4cc95e236fe202ce", func := "gnomon/gnomonlaw19.EftSplits", spec := "eftSplits", inPlace := ["math.Float64frombits", "math.Float64bits"], apart := false }
def EftSplitsSaid : Prop := eftSplitsRow.holds Try.pinned (OpenSpec.ofChange eftSplitsSpec)

/-- ITS FALSE NEIGHBOUR: 'it returns false'. Refute it at one input. -/
def eftSplitsWrong : ChangeSpec := { name := "eftSplits", fn := fun _ => fun
  | [d] => { results := [.lit (.bool false)], args := [d] }
  | _ => none }
def EftSplitsWrongFalsely : Prop := eftSplitsRow.holds Try.pinned (OpenSpec.ofChange eftSplitsWrong)

/-- 'gnomonlaw19.EftProducts': WHATEVER THE INPUT: true; the input reads as it did. -/
def eftProductsSpec : ChangeSpec := { name := "eftProducts", fn := fun _ => fun
  | [d1, d2] => { results := [.lit (.bool true)], args := [d1, d2] }
  | _ => none }
def eftProductsRow : OpenClaim := { program := "ytbgmadijifefiaa", sum := "7447c080a570d76bed9d3119d7223f49caf69ec6f5f6dbac4cc95e236fe202ce", func := "gnomon/gnomonlaw19.EftProducts", spec := "eftProducts", inPlace := ["math.Float64frombits", "math.Float64bits"], apart := false }
def EftProductsSaid : Prop := eftProductsRow.holds Try.pinned (OpenSpec.ofChange eftProductsSpec)

/-- ITS FALSE NEIGHBOUR: 'it returns false'. Refute it at one input. -/
def eftProductsWrong : ChangeSpec := { name := "eftProducts", fn := fun _ => fun
  | [d1, d2] => { results := [.lit (.bool false)], args := [d1, d2] }
  | _ => none }
def EftProductsWrongFalsely : Prop := eftProductsRow.holds Try.pinned (OpenSpec.ofChange eftProductsWrong)

/-- 'gnomonlaw19.EftLittle': WHATEVER THE INPUT: true; the input reads as it did. -/
def eftLittleSpec : ChangeSpec := { name := "eftLittle", fn := fun _ => fun
  | [d1, d2] => { results := [.lit (.bool true)], args := [d1, d2] }
  | _ => none }
def eftLittleRow : OpenClaim := { program := "ytbgmadijifefiaa", sum := "7447c080a570d76bed9d3119d7223f49caf69ec6f5f6dbac4cc95e236fe202ce", func := "gnomon/gnomonlaw19.EftLittle", spec := "eftLittle", inPlace := ["math.Float64frombits", "math.Float64bits"], apart := false }
def EftLittleSaid : Prop := eftLittleRow.holds Try.pinned (OpenSpec.ofChange eftLittleSpec)

/-- ITS FALSE NEIGHBOUR: 'it returns false'. Refute it at one input. -/
def eftLittleWrong : ChangeSpec := { name := "eftLittle", fn := fun _ => fun
  | [d1, d2] => { results := [.lit (.bool false)], args := [d1, d2] }
  | _ => none }
def EftLittleWrongFalsely : Prop := eftLittleRow.holds Try.pinned (OpenSpec.ofChange eftLittleWrong)

/-- 'gnomonlaw19.EftAgain': WHATEVER THE INPUT: true; the input reads as it did. -/
def eftAgainSpec : ChangeSpec := { name := "eftAgain", fn := fun _ => fun
  | [d] => { results := [.lit (.bool true)], args := [d] }
  | _ => none }
def eftAgainRow : OpenClaim := { program := "ytbgmadijifefiaa", sum := "7447c080a570d76bed9d3119d7223f49caf69ec6f5f6dbac4cc95e236fe202ce", func := "gnomon/gnomonlaw19.EftAgain", spec := "eftAgain", inPlace := ["math.Float64frombits", "math.Float64bits"], apart := false }
def EftAgainSaid : Prop := eftAgainRow.holds Try.pinned (OpenSpec.ofChange eftAgainSpec)

/-- ITS FALSE NEIGHBOUR: 'it returns false'. Refute it at one input. -/
def eftAgainWrong : ChangeSpec := { name := "eftAgain", fn := fun _ => fun
  | [d] => { results := [.lit (.bool false)], args := [d] }
  | _ => none }
def EftAgainWrongFalsely : Prop := eftAgainRow.holds Try.pinned (OpenSpec.ofChange eftAgainWrong)

/-- 'gnomonlaw19.EftSides': WHATEVER THE INPUT: true; the input reads as it did. -/
def eftSidesSpec : ChangeSpec := { name := "eftSides", fn := fun _ => fun
  | [d1, d2] => { results := [.lit (.bool true)], args := [d1, d2] }
  | _ => none }
def eftSidesRow : OpenClaim := { program := "ytbgmadijifefiaa", sum := "7447c080a570d76bed9d3119d7223f49caf69ec6f5f6dbac4cc95e236fe202ce", func := "gnomon/gnomonlaw19.EftSides", spec := "eftSides", inPlace := ["math.Float64frombits", "math.Float64bits"], apart := false }
def EftSidesSaid : Prop := eftSidesRow.holds Try.pinned (OpenSpec.ofChange eftSidesSpec)

/-- ITS FALSE NEIGHBOUR: 'it returns false'. Refute it at one input. -/
def eftSidesWrong : ChangeSpec := { name := "eftSides", fn := fun _ => fun
  | [d1, d2] => { results := [.lit (.bool false)], args := [d1, d2] }
  | _ => none }
def EftSidesWrongFalsely : Prop := eftSidesRow.holds Try.pinned (OpenSpec.ofChange eftSidesWrong)

/-- 'gnomonlaw19.EftHalves': WHATEVER THE INPUT: true; the input reads as it did. -/
def eftHalvesSpec : ChangeSpec := { name := "eftHalves", fn := fun _ => fun
  | [d1, d2] => { results := [.lit (.bool true)], args := [d1, d2] }
  | _ => none }
def eftHalvesRow : OpenClaim := { program := "ytbgmadijifefiaa", sum := "7447c080a570d76bed9d3119d7223f49caf69ec6f5f6dbac4cc95e236fe202ce", func := "gnomon/gnomonlaw19.EftHalves", spec := "eftHalves", inPlace := ["math.Float64frombits", "math.Float64bits"], apart := false }
def EftHalvesSaid : Prop := eftHalvesRow.holds Try.pinned (OpenSpec.ofChange eftHalvesSpec)

/-- ITS FALSE NEIGHBOUR: 'it returns false'. Refute it at one input. -/
def eftHalvesWrong : ChangeSpec := { name := "eftHalves", fn := fun _ => fun
  | [d1, d2] => { results := [.lit (.bool false)], args := [d1, d2] }
  | _ => none }
def EftHalvesWrongFalsely : Prop := eftHalvesRow.holds Try.pinned (OpenSpec.ofChange eftHalvesWrong)

/-- 'gnomonlaw19.EftChain': WHATEVER THE INPUT: true; the input reads as it did. -/
def eftChainSpec : ChangeSpec := { name := "eftChain", fn := fun _ => fun
  | [d] => { results := [.lit (.bool true)], args := [d] }
  | _ => none }
def eftChainRow : OpenClaim := { program := "ytbgmadijifefiaa", sum := "7447c080a570d76bed9d3119d7223f49caf69ec6f5f6dbac4cc95e236fe202ce", func := "gnomon/gnomonlaw19.EftChain", spec := "eftChain", inPlace := ["math.Float64frombits", "math.Float64bits"], apart := false }
def EftChainSaid : Prop := eftChainRow.holds Try.pinned (OpenSpec.ofChange eftChainSpec)

/-- ITS FALSE NEIGHBOUR: 'it returns false'. Refute it at one input. -/
def eftChainWrong : ChangeSpec := { name := "eftChain", fn := fun _ => fun
  | [d] => { results := [.lit (.bool false)], args := [d] }
  | _ => none }
def EftChainWrongFalsely : Prop := eftChainRow.holds Try.pinned (OpenSpec.ofChange eftChainWrong)

/-- 'gnomonlaw25.AcceptSound': WHATEVER THE INPUT: true; the input reads as it did. -/
def acceptSoundSpec : ChangeSpec := { name := "acceptSound", fn := fun _ => fun
  | [d1, d2, d3] => { results := [.lit (.bool true)], args := [d1, d2, d3] }
  | _ => none }
def acceptSoundRow : OpenClaim := { program := "ytbgmadijifefiaa", sum := "7447c080a570d76bed9d3119d7223f49caf69ec6f5f6dbac4cc95e236fe202ce", func := "gnomon/gnomonlaw25.AcceptSound", spec := "acceptSound", inPlace := ["math.Float64frombits", "math.Float64bits"], apart := false }
def AcceptSoundSaid : Prop := acceptSoundRow.holds Try.pinned (OpenSpec.ofChange acceptSoundSpec)

/-- ITS FALSE NEIGHBOUR: 'it returns false'. Refute it at one input. -/
def acceptSoundWrong : ChangeSpec := { name := "acceptSound", fn := fun _ => fun
  | [d1, d2, d3] => { results := [.lit (.bool false)], args := [d1, d2, d3] }
  | _ => none }
def AcceptSoundWrongFalsely : Prop := acceptSoundRow.holds Try.pinned (OpenSpec.ofChange acceptSoundWrong)

/-- 'gnomonlaw25.AcceptMust': WHATEVER THE INPUT: true; the input reads as it did. -/
def acceptMustSpec : ChangeSpec := { name := "acceptMust", fn := fun _ => fun
  | [d1, d2, d3] => { results := [.lit (.bool true)], args := [d1, d2, d3] }
  | _ => none }
def acceptMustRow : OpenClaim := { program := "ytbgmadijifefiaa", sum := "7447c080a570d76bed9d3119d7223f49caf69ec6f5f6dbac4cc95e236fe202ce", func := "gnomon/gnomonlaw25.AcceptMust", spec := "acceptMust", inPlace := ["math.Float64frombits", "math.Float64bits"], apart := false }
def AcceptMustSaid : Prop := acceptMustRow.holds Try.pinned (OpenSpec.ofChange acceptMustSpec)

/-- ITS FALSE NEIGHBOUR: 'it returns false'. Refute it at one input. -/
def acceptMustWrong : ChangeSpec := { name := "acceptMust", fn := fun _ => fun
  | [d1, d2, d3] => { results := [.lit (.bool false)], args := [d1, d2, d3] }
  | _ => none }
def AcceptMustWrongFalsely : Prop := acceptMustRow.holds Try.pinned (OpenSpec.ofChange acceptMustWrong)

/-- 'gnomonlaw25.AcceptAll': WHATEVER THE INPUT: true; the input reads as it did. -/
def acceptAllSpec : ChangeSpec := { name := "acceptAll", fn := fun _ => fun
  | [d] => { results := [.lit (.bool true)], args := [d] }
  | _ => none }
def acceptAllRow : OpenClaim := { program := "ytbgmadijifefiaa", sum := "7447c080a570d76bed9d3119d7223f49caf69ec6f5f6dbac4cc95e236fe202ce", func := "gnomon/gnomonlaw25.AcceptAll", spec := "acceptAll", inPlace := ["math.Float64frombits", "math.Float64bits"], apart := false }
def AcceptAllSaid : Prop := acceptAllRow.holds Try.pinned (OpenSpec.ofChange acceptAllSpec)

/-- ITS FALSE NEIGHBOUR: 'it returns false'. Refute it at one input. -/
def acceptAllWrong : ChangeSpec := { name := "acceptAll", fn := fun _ => fun
  | [d] => { results := [.lit (.bool false)], args := [d] }
  | _ => none }
def AcceptAllWrongFalsely : Prop := acceptAllRow.holds Try.pinned (OpenSpec.ofChange acceptAllWrong)

/-- 'gnomonlaw25.AcceptNarrows': WHATEVER THE INPUT: true; the input reads as it did. -/
def acceptNarrowsSpec : ChangeSpec := { name := "acceptNarrows", fn := fun _ => fun
  | [d1, d2, d3, d4] => { results := [.lit (.bool true)], args := [d1, d2, d3, d4] }
  | _ => none }
def acceptNarrowsRow : OpenClaim := { program := "ytbgmadijifefiaa", sum := "7447c080a570d76bed9d3119d7223f49caf69ec6f5f6dbac4cc95e236fe202ce", func := "gnomon/gnomonlaw25.AcceptNarrows", spec := "acceptNarrows", inPlace := ["math.Float64frombits", "math.Float64bits"], apart := false }
def AcceptNarrowsSaid : Prop := acceptNarrowsRow.holds Try.pinned (OpenSpec.ofChange acceptNarrowsSpec)

/-- ITS FALSE NEIGHBOUR: 'it returns false'. Refute it at one input. -/
def acceptNarrowsWrong : ChangeSpec := { name := "acceptNarrows", fn := fun _ => fun
  | [d1, d2, d3, d4] => { results := [.lit (.bool false)], args := [d1, d2, d3, d4] }
  | _ => none }
def AcceptNarrowsWrongFalsely : Prop := acceptNarrowsRow.holds Try.pinned (OpenSpec.ofChange acceptNarrowsWrong)

/-- 'gnomonlaw25.AcceptFloats': WHATEVER THE INPUT: true; the input reads as it did. -/
def acceptFloatsSpec : ChangeSpec := { name := "acceptFloats", fn := fun _ => fun
  | [d1, d2] => { results := [.lit (.bool true)], args := [d1, d2] }
  | _ => none }
def acceptFloatsRow : OpenClaim := { program := "ytbgmadijifefiaa", sum := "7447c080a570d76bed9d3119d7223f49caf69ec6f5f6dbac4cc95e236fe202ce", func := "gnomon/gnomonlaw25.AcceptFloats", spec := "acceptFloats", inPlace := ["math.Float64frombits", "math.Float64bits"], apart := false }
def AcceptFloatsSaid : Prop := acceptFloatsRow.holds Try.pinned (OpenSpec.ofChange acceptFloatsSpec)

/-- ITS FALSE NEIGHBOUR: 'it returns false'. Refute it at one input. -/
def acceptFloatsWrong : ChangeSpec := { name := "acceptFloats", fn := fun _ => fun
  | [d1, d2] => { results := [.lit (.bool false)], args := [d1, d2] }
  | _ => none }
def AcceptFloatsWrongFalsely : Prop := acceptFloatsRow.holds Try.pinned (OpenSpec.ofChange acceptFloatsWrong)

/-- 'gnomonlaw25.AcceptMirrors': WHATEVER THE INPUT: true; the input reads as it did. -/
def acceptMirrorsSpec : ChangeSpec := { name := "acceptMirrors", fn := fun _ => fun
  | [d1, d2, d3] => { results := [.lit (.bool true)], args := [d1, d2, d3] }
  | _ => none }
def acceptMirrorsRow : OpenClaim := { program := "ytbgmadijifefiaa", sum := "7447c080a570d76bed9d3119d7223f49caf69ec6f5f6dbac4cc95e236fe202ce", func := "gnomon/gnomonlaw25.AcceptMirrors", spec := "acceptMirrors", inPlace := ["math.Float64frombits", "math.Float64bits"], apart := false }
def AcceptMirrorsSaid : Prop := acceptMirrorsRow.holds Try.pinned (OpenSpec.ofChange acceptMirrorsSpec)

/-- ITS FALSE NEIGHBOUR: 'it returns false'. Refute it at one input. -/
def acceptMirrorsWrong : ChangeSpec := { name := "acceptMirrors", fn := fun _ => fun
  | [d1, d2, d3] => { results := [.lit (.bool false)], args := [d1, d2, d3] }
  | _ => none }
def AcceptMirrorsWrongFalsely : Prop := acceptMirrorsRow.holds Try.pinned (OpenSpec.ofChange acceptMirrorsWrong)

/- THE SECOND FORM. 'bulk': how many values and letters a reading holds, each counted each time it is reached (what is shared counts as often as it is met; a slice's spare places count too). A statement '..UptoSaid' is the law's where the arguments, and the package variables that the reading takes, are together of bulk at most 1048576: NARROWER than '..Said'. Prove '..Said' where nothing that the law and all that it calls make is longer than what came in: it says more and counts as full. Else prove '..UptoSaid'. A law counts once. -/
mutual
def uptoBulk {H : Type} : DataW H → Nat
  | .lit (.string bytes) => bytes.length + 1
  | .lit _ => 1
  | .nil => 1
  | .ptr d => uptoBulk d + 1
  | .slice elems spare => uptoBulkAll elems + uptoBulkAll spare + 1
  | .agg parts => uptoBulkAll parts + 1
  | .iface _ d => uptoBulk d + 1
  | .map entries => uptoBulkEntries entries + 1
  | .held _ => 1
def uptoBulkAll {H : Type} : List (DataW H) → Nat
  | [] => 0
  | d :: r => uptoBulk d + uptoBulkAll r
def uptoBulkEntries {H : Type} : List (Lit × DataW H) → Nat
  | [] => 0
  | x :: r => uptoBulkEntry x + uptoBulkEntries r
def uptoBulkEntry {H : Type} : Lit × DataW H → Nat
  | (.string bytes, d) => bytes.length + uptoBulk d + 1
  | (_, d) => uptoBulk d + 1
 end
def uptoSmall : (H : Type) → List (DataW H) → Bool := fun _ ds => decide (uptoBulkAll ds ≤ 1048576)
def OpenSpec.upto (s : _root_.Go.ChangeSpec) : _root_.Go.OpenSpec := { _root_.Go.OpenSpec.ofChange s with cond := some uptoSmall }

/-- 'gnomonlaw19.EftSums', WHERE WHAT IT READS IS OF BULK AT MOST 1048576: true; the input reads as it did. -/
def eftSumsUptoRow : OpenClaim := { program := "ytbgmadijifefiaa", sum := "7447c080a570d76bed9d3119d7223f49caf69ec6f5f6dbac4cc95e236fe202ce", func := "gnomon/gnomonlaw19.EftSums", spec := "eftSums", inPlace := ["math.Float64frombits", "math.Float64bits"], apart := false, narrowed := true }
def EftSumsUptoSaid : Prop := eftSumsUptoRow.holds Try.pinned (OpenSpec.upto eftSumsSpec)

/-- 'gnomonlaw19.EftFasts', WHERE WHAT IT READS IS OF BULK AT MOST 1048576: true; the input reads as it did. -/
def eftFastsUptoRow : OpenClaim := { program := "ytbgmadijifefiaa", sum := "7447c080a570d76bed9d3119d7223f49caf69ec6f5f6dbac4cc95e236fe202ce", func := "gnomon/gnomonlaw19.EftFasts", spec := "eftFasts", inPlace := ["math.Float64frombits", "math.Float64bits"], apart := false, narrowed := true }
def EftFastsUptoSaid : Prop := eftFastsUptoRow.holds Try.pinned (OpenSpec.upto eftFastsSpec)

/-- 'gnomonlaw19.EftSplits', WHERE WHAT IT READS IS OF BULK AT MOST 1048576: true; the input reads as it did. -/
def eftSplitsUptoRow : OpenClaim := { program := "ytbgmadijifefiaa", sum := "7447c080a570d76bed9d3119d7223f49caf69ec6f5f6dbac4cc95e236fe202ce", func := "gnomon/gnomonlaw19.EftSplits", spec := "eftSplits", inPlace := ["math.Float64frombits", "math.Float64bits"], apart := false, narrowed := true }
def EftSplitsUptoSaid : Prop := eftSplitsUptoRow.holds Try.pinned (OpenSpec.upto eftSplitsSpec)

/-- 'gnomonlaw19.EftProducts', WHERE WHAT IT READS IS OF BULK AT MOST 1048576: true; the input reads as it did. -/
def eftProductsUptoRow : OpenClaim := { program := "ytbgmadijifefiaa", sum := "7447c080a570d76bed9d3119d7223f49caf69ec6f5f6dbac4cc95e236fe202ce", func := "gnomon/gnomonlaw19.EftProducts", spec := "eftProducts", inPlace := ["math.Float64frombits", "math.Float64bits"], apart := false, narrowed := true }
def EftProductsUptoSaid : Prop := eftProductsUptoRow.holds Try.pinned (OpenSpec.upto eftProductsSpec)

/-- 'gnomonlaw19.EftLittle', WHERE WHAT IT READS IS OF BULK AT MOST 1048576: true; the input reads as it did. -/
def eftLittleUptoRow : OpenClaim := { program := "ytbgmadijifefiaa", sum := "7447c080a570d76bed9d3119d7223f49caf69ec6f5f6dbac4cc95e236fe202ce", func := "gnomon/gnomonlaw19.EftLittle", spec := "eftLittle", inPlace := ["math.Float64frombits", "math.Float64bits"], apart := false, narrowed := true }
def EftLittleUptoSaid : Prop := eftLittleUptoRow.holds Try.pinned (OpenSpec.upto eftLittleSpec)

/-- 'gnomonlaw19.EftAgain', WHERE WHAT IT READS IS OF BULK AT MOST 1048576: true; the input reads as it did. -/
def eftAgainUptoRow : OpenClaim := { program := "ytbgmadijifefiaa", sum := "7447c080a570d76bed9d3119d7223f49caf69ec6f5f6dbac4cc95e236fe202ce", func := "gnomon/gnomonlaw19.EftAgain", spec := "eftAgain", inPlace := ["math.Float64frombits", "math.Float64bits"], apart := false, narrowed := true }
def EftAgainUptoSaid : Prop := eftAgainUptoRow.holds Try.pinned (OpenSpec.upto eftAgainSpec)

/-- 'gnomonlaw19.EftSides', WHERE WHAT IT READS IS OF BULK AT MOST 1048576: true; the input reads as it did. -/
def eftSidesUptoRow : OpenClaim := { program := "ytbgmadijifefiaa", sum := "7447c080a570d76bed9d3119d7223f49caf69ec6f5f6dbac4cc95e236fe202ce", func := "gnomon/gnomonlaw19.EftSides", spec := "eftSides", inPlace := ["math.Float64frombits", "math.Float64bits"], apart := false, narrowed := true }
def EftSidesUptoSaid : Prop := eftSidesUptoRow.holds Try.pinned (OpenSpec.upto eftSidesSpec)

/-- 'gnomonlaw19.EftHalves', WHERE WHAT IT READS IS OF BULK AT MOST 1048576: true; the input reads as it did. -/
def eftHalvesUptoRow : OpenClaim := { program := "ytbgmadijifefiaa", sum := "7447c080a570d76bed9d3119d7223f49caf69ec6f5f6dbac4cc95e236fe202ce", func := "gnomon/gnomonlaw19.EftHalves", spec := "eftHalves", inPlace := ["math.Float64frombits", "math.Float64bits"], apart := false, narrowed := true }
def EftHalvesUptoSaid : Prop := eftHalvesUptoRow.holds Try.pinned (OpenSpec.upto eftHalvesSpec)

/-- 'gnomonlaw19.EftChain', WHERE WHAT IT READS IS OF BULK AT MOST 1048576: true; the input reads as it did. -/
def eftChainUptoRow : OpenClaim := { program := "ytbgmadijifefiaa", sum := "7447c080a570d76bed9d3119d7223f49caf69ec6f5f6dbac4cc95e236fe202ce", func := "gnomon/gnomonlaw19.EftChain", spec := "eftChain", inPlace := ["math.Float64frombits", "math.Float64bits"], apart := false, narrowed := true }
def EftChainUptoSaid : Prop := eftChainUptoRow.holds Try.pinned (OpenSpec.upto eftChainSpec)

/-- 'gnomonlaw25.AcceptSound', WHERE WHAT IT READS IS OF BULK AT MOST 1048576: true; the input reads as it did. -/
def acceptSoundUptoRow : OpenClaim := { program := "ytbgmadijifefiaa", sum := "7447c080a570d76bed9d3119d7223f49caf69ec6f5f6dbac4cc95e236fe202ce", func := "gnomon/gnomonlaw25.AcceptSound", spec := "acceptSound", inPlace := ["math.Float64frombits", "math.Float64bits"], apart := false, narrowed := true }
def AcceptSoundUptoSaid : Prop := acceptSoundUptoRow.holds Try.pinned (OpenSpec.upto acceptSoundSpec)

/-- 'gnomonlaw25.AcceptMust', WHERE WHAT IT READS IS OF BULK AT MOST 1048576: true; the input reads as it did. -/
def acceptMustUptoRow : OpenClaim := { program := "ytbgmadijifefiaa", sum := "7447c080a570d76bed9d3119d7223f49caf69ec6f5f6dbac4cc95e236fe202ce", func := "gnomon/gnomonlaw25.AcceptMust", spec := "acceptMust", inPlace := ["math.Float64frombits", "math.Float64bits"], apart := false, narrowed := true }
def AcceptMustUptoSaid : Prop := acceptMustUptoRow.holds Try.pinned (OpenSpec.upto acceptMustSpec)

/-- 'gnomonlaw25.AcceptAll', WHERE WHAT IT READS IS OF BULK AT MOST 1048576: true; the input reads as it did. -/
def acceptAllUptoRow : OpenClaim := { program := "ytbgmadijifefiaa", sum := "7447c080a570d76bed9d3119d7223f49caf69ec6f5f6dbac4cc95e236fe202ce", func := "gnomon/gnomonlaw25.AcceptAll", spec := "acceptAll", inPlace := ["math.Float64frombits", "math.Float64bits"], apart := false, narrowed := true }
def AcceptAllUptoSaid : Prop := acceptAllUptoRow.holds Try.pinned (OpenSpec.upto acceptAllSpec)

/-- 'gnomonlaw25.AcceptNarrows', WHERE WHAT IT READS IS OF BULK AT MOST 1048576: true; the input reads as it did. -/
def acceptNarrowsUptoRow : OpenClaim := { program := "ytbgmadijifefiaa", sum := "7447c080a570d76bed9d3119d7223f49caf69ec6f5f6dbac4cc95e236fe202ce", func := "gnomon/gnomonlaw25.AcceptNarrows", spec := "acceptNarrows", inPlace := ["math.Float64frombits", "math.Float64bits"], apart := false, narrowed := true }
def AcceptNarrowsUptoSaid : Prop := acceptNarrowsUptoRow.holds Try.pinned (OpenSpec.upto acceptNarrowsSpec)

/-- 'gnomonlaw25.AcceptFloats', WHERE WHAT IT READS IS OF BULK AT MOST 1048576: true; the input reads as it did. -/
def acceptFloatsUptoRow : OpenClaim := { program := "ytbgmadijifefiaa", sum := "7447c080a570d76bed9d3119d7223f49caf69ec6f5f6dbac4cc95e236fe202ce", func := "gnomon/gnomonlaw25.AcceptFloats", spec := "acceptFloats", inPlace := ["math.Float64frombits", "math.Float64bits"], apart := false, narrowed := true }
def AcceptFloatsUptoSaid : Prop := acceptFloatsUptoRow.holds Try.pinned (OpenSpec.upto acceptFloatsSpec)

/-- 'gnomonlaw25.AcceptMirrors', WHERE WHAT IT READS IS OF BULK AT MOST 1048576: true; the input reads as it did. -/
def acceptMirrorsUptoRow : OpenClaim := { program := "ytbgmadijifefiaa", sum := "7447c080a570d76bed9d3119d7223f49caf69ec6f5f6dbac4cc95e236fe202ce", func := "gnomon/gnomonlaw25.AcceptMirrors", spec := "acceptMirrors", inPlace := ["math.Float64frombits", "math.Float64bits"], apart := false, narrowed := true }
def AcceptMirrorsUptoSaid : Prop := acceptMirrorsUptoRow.holds Try.pinned (OpenSpec.upto acceptMirrorsSpec)

end Rows
end Go.Proofs.Ytbgmadijifefiaa
