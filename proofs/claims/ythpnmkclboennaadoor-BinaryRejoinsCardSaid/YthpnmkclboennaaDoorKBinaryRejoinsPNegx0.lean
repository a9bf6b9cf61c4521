/- The plays of ClassOf, Quiet, Split, Value, Mid. Conditions: words below 2^64; math/bits' table is laid.  -/
import Derived.Test.YthpnmkclboennaaDoorKBinaryRejoinsBinS
import Derived.Test.YthpnmkclboennaaDoorKBinaryRejoinsPLibx7
import Derived.Test.YthpnmkclboennaaDoorKBinaryRejoinsPLibx0
import Derived.Test.YthpnmkclboennaaDoorKBinaryRejoinsPLibx3
import Derived.Test.YthpnmkclboennaaDoorKBinaryRejoinsPLibx2
import Derived.Test.YthpnmkclboennaaDoorKBinaryRejoinsPLibx9
import Derived.Test.YthpnmkclboennaaDoorProg
import Derived.Below
import Derived.Deep.Draws
import Derived.Deep.AppendLies
import Derived.Maps.AppendAt
import Derived.OwnWalk
import Derived.Laws.BytesArg
import Derived.Laws.MakeOwn
import Derived.Laws.OwnMore
import Derived.Deep.OwnRows
import Derived.Tactics
import Derived.Lib.ConvBytes
import Derived.Laws.Slices
import Derived.WalkKit
import Derived.KernelRfl
import Derived.RowKit3
import Derived.Deep.LoopGhost
import Derived.Deep.QuietTactic
import Derived.BigQuiet
import Derived.WideLaws
import Derived.Deep.DeepCutAuto
import Derived.Deep.CutBlock
import Derived.Deep.RegionHeld3
import Derived.Laws.Rows
import Derived.Lib.AppendStr
import Derived.ArgAppend
import Derived.Laws.IdiomCopy
import Derived.OrdersHeld
import Derived.Laws.BitsLemmas
import Derived.RowKit
import Derived.Test.YthpnmkclboennaaDoorKBinaryRejoinsWWords
import Derived.Test.YthpnmkclboennaaDoorKBinaryRejoinsWLast
import Derived.Test.YthpnmkclboennaaDoorKBinaryRejoinsWTab
import Derived.Test.YthpnmkclboennaaDoorKBinaryRejoinsWApart
import Derived.Test.YthpnmkclboennaaDoorKBinaryRejoinsWN
import Derived.Test.YthpnmkclboennaaDoorKBinaryRejoinsWEqStruct
import Derived.Test.YthpnmkclboennaaDoorKBinaryRejoinsWRepsOne
import Derived.Test.YthpnmkclboennaaDoorKBinaryRejoinsWGuard
import Derived.Test.YthpnmkclboennaaDoorKBinaryRejoinsWMore
import Derived.Test.YthpnmkclboennaaDoorKBinaryRejoinsWMine
section
namespace Go.Proofs.YthpnmkclboennaaDoor.BinS2
open Go.RowKit Go.Proofs.YthpnmkclboennaaDoorW.PrintWords Go.Proofs.YthpnmkclboennaaDoorW.PrintMore Go.Proofs.YthpnmkclboennaaDoorW.PrintLast Go.Proofs.YthpnmkclboennaaDoor.Num Go.Proofs.YthpnmkclboennaaDoor.PLib Go.Proofs.YthpnmkclboennaaDoor.Ref Go.Proofs.YthpnmkclboennaaDoor.BinLaw Go.Proofs.YthpnmkclboennaaDoor.BinA Go.Proofs.YthpnmkclboennaaDoor.BinO2 Go.Proofs.YthpnmkclboennaaDoor.BinF Go.Proofs.YthpnmkclboennaaDoor.BinG Go.Proofs.YthpnmkclboennaaDoor.BinW Go.Proofs.YthpnmkclboennaaDoor.BinW2 Go.Proofs.YthpnmkclboennaaDoor.BinTab Go.Proofs.YthpnmkclboennaaDoor.BinM Go.Proofs.YthpnmkclboennaaDoor.BinM2 Go.Proofs.YthpnmkclboennaaDoor.BinV1 Go.Proofs.YthpnmkclboennaaDoor.BinAll Go.Proofs.YthpnmkclboennaaDoor.BinS
structure DyE (neg : Bool) (l : List Int) (x er : Int) (w : World) (e : Ending) (w' : World) : Prop where mk :: (ex : ∃ A c, e = .returned (.tuple #[.agg #[.bool neg, .slice A l.length c, .int .i64 x], .int .i64 er]) ∧ DyL w' A c l) (below : Below w.heap.size w w')
theorem dye {neg : Bool} {l : List Int} {x er : Int} {w w' : World} {e : Ending} (h : DyW neg l x er w e w') : DyE neg l x er w e w' := by
  obtain ⟨⟨A, c, e1, h1, h2, _⟩, hb⟩ := h
  exact ⟨⟨A, c, e1, ⟨h1, h2⟩⟩, hb⟩
theorem dyl_len (n : Nat) : (dyl n).length ≤ 1 := by unfold dyl; split <;> simp
end Go.Proofs.YthpnmkclboennaaDoor.BinS2
end
section
namespace Go.Proofs.YthpnmkclboennaaDoor.PNeg
open Go.RowKit Go.Proofs.YthpnmkclboennaaDoorW.PrintWords Go.Proofs.YthpnmkclboennaaDoorW.PrintLast Go.Proofs.YthpnmkclboennaaDoorW.PrintMore
attribute [local go_sem] max2_int min2_int max_two min_two max_three min_three max_four min_four   -- for this text's walks alone
set_option linter.unusedVariables false
set_option linter.unusedSimpArgs false
def errW : Option Int → Value
  | none => .nilIface
  | some c => .iface 0 (.int .i64 c)
theorem errW_none : errW none = .nilIface := rfl
theorem errW_some (c : Int) : errW (some c) = .iface 0 (.int .i64 c) := rfl
end Go.Proofs.YthpnmkclboennaaDoor.PNeg
end
