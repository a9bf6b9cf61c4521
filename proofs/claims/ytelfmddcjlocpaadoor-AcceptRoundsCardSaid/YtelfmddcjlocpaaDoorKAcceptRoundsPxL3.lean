/- Functions of the program as plain Lean functions (definitions as the print's), and that the machine's calls do what they do (contracts 'X.c', by Px). Condition: math/bits' table is laid. -/
import Derived.Test.YtelfmddcjlocpaaDoorKAcceptRoundsPxBr
import Derived.Test.YtelfmddcjlocpaaDoorKAcceptRoundsPxGiven
import Derived.Test.YtelfmddcjlocpaaDoorProg
import Derived.Test.YtelfmddcjlocpaaDoorKAcceptRoundsGiven
import Derived.Below
import Derived.Deep.Draws
import Derived.Deep.AppendLies
import Derived.Maps.AppendAt
import Derived.OwnWalk
import Derived.Laws.BytesArg
import Derived.Laws.MakeOwn
import Derived.Laws.OwnMore
import Derived.Deep.OwnRows
import Derived.Tactics
import Derived.Lib.ConvBytes
import Derived.Laws.Slices
import Derived.WalkKit
import Derived.KernelRfl
import Derived.RowKit3
import Derived.Deep.LoopGhost
import Derived.Deep.QuietTactic
import Derived.BigQuiet
import Derived.WideLaws
import Derived.Deep.DeepCutAuto
import Derived.Deep.CutBlock
import Derived.Deep.RegionHeld3
import Derived.Laws.Rows
import Derived.Lib.AppendStr
import Derived.ArgAppend
import Derived.Laws.IdiomCopy
import Derived.OrdersHeld
import Derived.Laws.BitsLemmas
import Derived.RowKit
import Derived.Test.YtelfmddcjlocpaaDoorKAcceptRoundsWWords
import Derived.Test.YtelfmddcjlocpaaDoorKAcceptRoundsBl
import Derived.Test.YtelfmddcjlocpaaDoorKAcceptRoundsWInv
import Derived.Laws.StructEq
import Derived.Laws.CopyOwn
import Derived.Test.YtelfmddcjlocpaaDoorKAcceptRoundsPxL0
import Derived.Test.YtelfmddcjlocpaaDoorKAcceptRoundsPxL1
set_option linter.unusedVariables false
namespace Go.Proofs.YtelfmddcjlocpaaDoor.PLib
open Go Go.RowKit Go.Proofs.YtelfmddcjlocpaaDoorW.PrintWords Go.Proofs.YtelfmddcjlocpaaDoorW.PrintMore Go.Proofs.YtelfmddcjlocpaaDoor.Given Go.Proofs.YtelfmddcjlocpaaDoor.Px
def span_cmp.f (k : Nat) (a0_0 : Bool) (l0_1 : List Int) (a0_2 : Int) (a1_0 : Bool) (l1_1 : List Int) (a1_2 : Int) : Option (Int) := (dyadic_Cmp.f k a0_0 l0_1 a0_2 a1_0 l1_1 a1_2).bind fun bt651 => (some bt651.1)
theorem span_cmp.c {k : Nat} {a0_0 : Bool} {l0_1 : List Int} {a0_2 : Int} {a1_0 : Bool} {l1_1 : List Int} {a1_2 : Int} {r : Int} (h : span_cmp.f k a0_0 l0_1 a0_2 a1_0 l1_1 a1_2 = some r) : Con Tryd.prog Gw 64 [.ag [.b a0_0, .sl .u64 l0_1, .i .i64 a0_2], .ag [.b a1_0, .sl .u64 l1_1, .i .i64 a1_2]] (· = .s (.i .i64 r)) := by
 unfold span_cmp.f at h
 obtain ⟨bt651, A1, h⟩ := bnd h
 have h := si h; subst h
 exact pth Tryd.func64 [.r (.tu [.s (.i .i64 bt651.1), .s (.i .i64 bt651.2)])] (fun e => ai (dyadic_Cmp.c A1) e) (by kernel_rfl)
def span_Form.f (k : Nat) (a0_0 : Bool) (l0_1 : List Int) (a0_2 : Int) (a0_3 : Bool) (l0_4 : List Int) (a0_5 : Int) : Option (Bool) := (dyadic_Form.f k a0_0 l0_1 a0_2).bind fun t654 => (if t654 = true then ((dyadic_Form.f k a0_3 l0_4 a0_5).bind fun t655 => (if t655 = true then ((span_cmp.f k a0_0 l0_1 a0_2 a0_3 l0_4 a0_5).bind fun t656 => (some (decide (t656 ≤ 0)))) else (some false))) else (some false))
theorem span_Form.c {k : Nat} {a0_0 : Bool} {l0_1 : List Int} {a0_2 : Int} {a0_3 : Bool} {l0_4 : List Int} {a0_5 : Int} {r : Bool} (h : span_Form.f k a0_0 l0_1 a0_2 a0_3 l0_4 a0_5 = some r) : Con Tryd.prog Gw 35 [.ag [.b a0_0, .sl .u64 l0_1, .i .i64 a0_2, .b a0_3, .sl .u64 l0_4, .i .i64 a0_5]] (· = .s (.b r)) := by
 unfold span_Form.f at h
 obtain ⟨t654, A1, h⟩ := bnd h
 rcases ite_e h with ⟨c2, h⟩ | ⟨c2, h⟩
 ·obtain ⟨t655, A3, h⟩ := bnd h
  rcases ite_e h with ⟨c4, h⟩ | ⟨c4, h⟩
  ·obtain ⟨t656, A5, h⟩ := bnd h
   have h := si h; subst h
   exact pth Tryd.func35 [.r (.s (.b t654)), .br true, .br true, .br true, .r (.s (.b t655)), .br true, .br true, .br true, .br true, .br true, .br true, .r (.s (.i .i64 t656)), .br true, .br true] (fun e => ai (dyadic_Form.c A1) (ai c2 (ai c2 (ai c2 (ai (dyadic_Form.c A3) (ai c2 (ai c4 (ai c4 (ai c4 (ai c4 (ai c4 (ai (span_cmp.c A5) (ai c4 (ai c4 e)))))))))))))) (by kernel_rfl)
  ·have h := si h; subst h
   exact pth Tryd.func35 [.r (.s (.b t654)), .br true, .br true, .br true, .r (.s (.b t655)), .br true, .br false, .br false, .br false, .br false, .br false, .br false, .br false] (fun e => ai (dyadic_Form.c A1) (ai c2 (ai c2 (ai c2 (ai (dyadic_Form.c A3) (ai c2 (ai (z0 c4) (ai (z0 c4) (ai (z0 c4) (ai (z0 c4) (ai (z0 c4) (ai (z0 c4) (ai (z0 c4) e))))))))))))) (by kernel_rfl)
 ·have h := si h; subst h
  exact pth Tryd.func35 [.r (.s (.b t654)), .br false, .br false, .br false, .br false, .br false, .br false, .br false, .br false, .br false, .br false, .br false] (fun e => ai (dyadic_Form.c A1) (ai (z0 c2) (ai (z0 c2) (ai (z0 c2) (ai (z0 c2) (ai ff (ai ff (ai ff (ai ff (ai ff (ai ff (ai ff e)))))))))))) (by kernel_rfl)
def round_Decide.f (k : Nat) (a0 : Int) (a1_0 : Bool) (l1_1 : List Int) (a1_2 : Int) (a1_3 : Bool) (l1_4 : List Int) (a1_5 : Int) : Option (Int × Bool × Int) := (round_of.f a0).bind fun bt658 => (if (bt658.1 == 0 && (bt658.2.1 == 0 && (bt658.2.2 == 0))) = true then (some (0, false, 1)) else ((span_Form.f k a1_0 l1_1 a1_2 a1_3 l1_4 a1_5).bind fun t662 => (if t662 = true then ((round_Nearest.f k a0 a1_0 l1_1 a1_2).bind fun bt663 => ((round_Nearest.f k a0 a1_3 l1_4 a1_5).bind fun bt665 => (if bt663.1 = bt665.1 then (some (bt663.1, true, 0)) else (some (0, false, 0))))) else (some (0, false, 2)))))
theorem round_Decide.c {k : Nat} {a0 : Int} {a1_0 : Bool} {l1_1 : List Int} {a1_2 : Int} {a1_3 : Bool} {l1_4 : List Int} {a1_5 : Int} {r : Int × Bool × Int} (h : round_Decide.f k a0 a1_0 l1_1 a1_2 a1_3 l1_4 a1_5 = some r) : Con Tryd.prog Gw 9 [.s (.i .i64 a0), .ag [.b a1_0, .sl .u64 l1_1, .i .i64 a1_2, .b a1_3, .sl .u64 l1_4, .i .i64 a1_5]] (· = .tu [.s (.i .u64 r.1), .s (.b r.2.1), .s (.i .i64 r.2.2)]) := by
 unfold round_Decide.f at h
 obtain ⟨bt658, A1, h⟩ := bnd h
 rcases ite_e h with ⟨c2, h⟩ | ⟨c2, h⟩
 ·have h := si h; subst h
  exact pth Tryd.func9 [.r (.ag [.i .i64 bt658.1, .i .i64 bt658.2.1, .i .i64 bt658.2.2]), .br true] (fun e => ai (round_of.c A1) (ai c2 e)) (by kernel_rfl)
 ·obtain ⟨t662, A3, h⟩ := bnd h
  rcases ite_e h with ⟨c4, h⟩ | ⟨c4, h⟩
  ·obtain ⟨bt663, A5, h⟩ := bnd h
   obtain ⟨bt665, A6, h⟩ := bnd h
   rcases ite_e h with ⟨c7, h⟩ | ⟨c7, h⟩
   ·have h := si h; subst h
    exact pth Tryd.func9 [.r (.ag [.i .i64 bt658.1, .i .i64 bt658.2.1, .i .i64 bt658.2.2]), .br false, .r (.s (.b t662)), .br false, .r (.tu [.s (.i .u64 bt663.1), .s (.i .i64 bt663.2)]), .r (.tu [.s (.i .u64 bt665.1), .s (.i .i64 bt665.2)]), .br false] (fun e => ai (round_of.c A1) (ai (z0 c2) (ai (span_Form.c A3) (ai (nt1 c4) (ai (round_Nearest.c A5) (ai (round_Nearest.c A6) (ai (n0 c7) e))))))) (by kernel_rfl)
   ·have h := si h; subst h
    exact pth Tryd.func9 [.r (.ag [.i .i64 bt658.1, .i .i64 bt658.2.1, .i .i64 bt658.2.2]), .br false, .r (.s (.b t662)), .br false, .r (.tu [.s (.i .u64 bt663.1), .s (.i .i64 bt663.2)]), .r (.tu [.s (.i .u64 bt665.1), .s (.i .i64 bt665.2)]), .br true] (fun e => ai (round_of.c A1) (ai (z0 c2) (ai (span_Form.c A3) (ai (nt1 c4) (ai (round_Nearest.c A5) (ai (round_Nearest.c A6) (ai (n1 c7) e))))))) (by kernel_rfl)
  ·have h := si h; subst h
   exact pth Tryd.func9 [.r (.ag [.i .i64 bt658.1, .i .i64 bt658.2.1, .i .i64 bt658.2.2]), .br false, .r (.s (.b t662)), .br true] (fun e => ai (round_of.c A1) (ai (z0 c2) (ai (span_Form.c A3) (ai (nt0 (z0 c4)) e)))) (by kernel_rfl)
end Go.Proofs.YtelfmddcjlocpaaDoor.PLib
