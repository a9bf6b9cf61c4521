/- Functions of the program as plain Lean functions (definitions as the print's), and that the machine's calls do what they do (contracts 'X.c', by Px). Condition: math/bits' table is laid. -/
import Derived.Test.YtelfmddcjlocpaaDoorKAcceptMiddlesPxBr
import Derived.Test.YtelfmddcjlocpaaDoorKAcceptMiddlesPxGiven
import Derived.Test.YtelfmddcjlocpaaDoorProg
import Derived.Test.YtelfmddcjlocpaaDoorKAcceptMiddlesGiven
import Derived.Below
import Derived.Deep.Draws
import Derived.Deep.AppendLies
import Derived.Maps.AppendAt
import Derived.OwnWalk
import Derived.Laws.BytesArg
import Derived.Laws.MakeOwn
import Derived.Laws.OwnMore
import Derived.Deep.OwnRows
import Derived.Tactics
import Derived.Lib.ConvBytes
import Derived.Laws.Slices
import Derived.WalkKit
import Derived.KernelRfl
import Derived.RowKit3
import Derived.Deep.LoopGhost
import Derived.Deep.QuietTactic
import Derived.BigQuiet
import Derived.WideLaws
import Derived.Deep.DeepCutAuto
import Derived.Deep.CutBlock
import Derived.Deep.RegionHeld3
import Derived.Laws.Rows
import Derived.Lib.AppendStr
import Derived.ArgAppend
import Derived.Laws.IdiomCopy
import Derived.OrdersHeld
import Derived.Laws.BitsLemmas
import Derived.RowKit
import Derived.Test.YtelfmddcjlocpaaDoorKAcceptMiddlesWWords
import Derived.Test.YtelfmddcjlocpaaDoorKAcceptMiddlesBl
import Derived.Test.YtelfmddcjlocpaaDoorKAcceptMiddlesWInv
import Derived.Laws.StructEq
import Derived.Laws.CopyOwn
import Derived.Test.YtelfmddcjlocpaaDoorKAcceptMiddlesPxL0
import Derived.Test.YtelfmddcjlocpaaDoorKAcceptMiddlesPxL1
import Derived.Test.YtelfmddcjlocpaaDoorKAcceptMiddlesRp4
set_option linter.unusedVariables false
namespace Go.Proofs.YtelfmddcjlocpaaDoor.PLib
open Go Go.RowKit Go.Proofs.YtelfmddcjlocpaaDoorW.PrintWords Go.Proofs.YtelfmddcjlocpaaDoorW.PrintMore Go.Proofs.YtelfmddcjlocpaaDoor.Given Go.Proofs.YtelfmddcjlocpaaDoor.Px
def dyadic_twin.f (a0_0 : Bool) (l0_1 : List Int) (a0_2 : Int) : Option (Bool × List Int × Int) := (slices_Clone_uint64_uint64.f l0_1).bind fun t715 => (some (a0_0, t715, a0_2))
theorem dyadic_twin.c {a0_0 : Bool} {l0_1 : List Int} {a0_2 : Int} {r : Bool × List Int × Int} (h : dyadic_twin.f a0_0 l0_1 a0_2 = some r) : Con Tryd.prog Gw 59 [.ag [.b a0_0, .sl .u64 l0_1, .i .i64 a0_2]] (· = .ag [.b r.1, .sl .u64 r.2.1, .i .i64 r.2.2]) := by
 unfold dyadic_twin.f at h
 obtain ⟨t715, A1, h⟩ := bnd h
 have h := si h; subst h
 exact pth Tryd.func59 [.r (.s (.sl .u64 t715))] (fun e => ai (slices_Clone_uint64_uint64.c A1) e) (by kernel_rfl)
def dyadic_Neg.f (k : Nat) (a0_0 : Bool) (l0_1 : List Int) (a0_2 : Int) : Option (Bool × List Int × Int × Int) := (dyadic_Form.f k a0_0 l0_1 a0_2).bind fun t720 => (if t720 = true then ((dyadic_twin.f a0_0 l0_1 a0_2).bind fun bt721 => (if bt721.1 = true then (some (false, bt721.2.1, bt721.2.2, 0)) else ((dyadic_nought.f bt721.1 bt721.2.1 bt721.2.2).bind fun t726 => (some (!t726, bt721.2.1, bt721.2.2, 0))))) else (some (false, ([] : List Int), 0, 2)))
theorem dyadic_Neg.c {k : Nat} {a0_0 : Bool} {l0_1 : List Int} {a0_2 : Int} {r : Bool × List Int × Int × Int} (h : dyadic_Neg.f k a0_0 l0_1 a0_2 = some r) : Con Tryd.prog Gw 44 [.ag [.b a0_0, .sl .u64 l0_1, .i .i64 a0_2]] (· = .tu [.ag [.b r.1, .sl .u64 r.2.1, .i .i64 r.2.2.1], .s (.i .i64 r.2.2.2)]) := by
 unfold dyadic_Neg.f at h
 obtain ⟨t720, A1, h⟩ := bnd h
 rcases ite_e h with ⟨c2, h⟩ | ⟨c2, h⟩
 ·obtain ⟨bt721, A3, h⟩ := bnd h
  rcases ite_e h with ⟨c4, h⟩ | ⟨c4, h⟩
  ·have h := si h; subst h
   exact pth Tryd.func44 [.r (.s (.b t720)), .br false, .r (.ag [.b bt721.1, .sl .u64 bt721.2.1, .i .i64 bt721.2.2]), .br false, .br false, .br false, .br false] (fun e => ai (dyadic_Form.c A1) (ai (nt1 c2) (ai (dyadic_twin.c A3) (ai (nt1 c4) (ai (nt1 c4) (ai (nt1 c4) (ai (nt1 c4) e))))))) (by kernel_rfl)
  ·obtain ⟨t726, A5, h⟩ := bnd h
   have h := si h; subst h
   exact pth Tryd.func44 [.r (.s (.b t720)), .br false, .r (.ag [.b bt721.1, .sl .u64 bt721.2.1, .i .i64 bt721.2.2]), .br true, .br true, .r (.s (.b t726)), .br true, .br true] (fun e => ai (dyadic_Form.c A1) (ai (nt1 c2) (ai (dyadic_twin.c A3) (ai (nt0 (z0 c4)) (ai (nt0 (z0 c4)) (ai (dyadic_nought.c A5) (ai (nt0 (z0 c4)) (ai (nt0 (z0 c4)) e)))))))) (by kernel_rfl)
 ·have h := si h; subst h
  exact pth Tryd.func44 [.r (.s (.b t720)), .br true] (fun e => ai (dyadic_Form.c A1) (ai (nt0 (z0 c2)) e)) (by kernel_rfl)
end Go.Proofs.YtelfmddcjlocpaaDoor.PLib
