/- Functions of the program as plain Lean functions (definitions as the print's), and that the machine's calls do what they do (contracts 'X.c', by Px). Condition: math/bits' table is laid.  -/
import Derived.Test.YtelfmddcjlocpaaGreatDoorKRoundNearestsPxBr
import Derived.Test.YtelfmddcjlocpaaGreatDoorKRoundNearestsPxTz
import Derived.Test.YtelfmddcjlocpaaGreatDoorKRoundNearestsPxL0
import Derived.Test.YtelfmddcjlocpaaGreatDoorKRoundNearestsPxL1
import Derived.Test.YtelfmddcjlocpaaGreatDoorProg
import Derived.Test.YtelfmddcjlocpaaGreatDoorKRoundNearestsGiven
import Derived.Below
import Derived.Deep.Draws
import Derived.Deep.AppendLies
import Derived.Maps.AppendAt
import Derived.OwnWalk
import Derived.Laws.BytesArg
import Derived.Laws.MakeOwn
import Derived.Laws.OwnMore
import Derived.Deep.OwnRows
import Derived.Tactics
import Derived.Lib.ConvBytes
import Derived.Laws.Slices
import Derived.WalkKit
import Derived.KernelRfl
import Derived.RowKit3
import Derived.Deep.LoopGhost
import Derived.Deep.QuietTactic
import Derived.BigQuiet
import Derived.WideLaws
import Derived.Deep.DeepCutAuto
import Derived.Deep.CutBlock
import Derived.Deep.RegionHeld3
import Derived.Laws.Rows
import Derived.Lib.AppendStr
import Derived.ArgAppend
import Derived.Laws.IdiomCopy
import Derived.OrdersHeld
import Derived.Laws.BitsLemmas
import Derived.RowKit
import Derived.Test.YtelfmddcjlocpaaGreatDoorKRoundNearestsWWords
import Derived.Test.YtelfmddcjlocpaaGreatDoorKRoundNearestsWLast
import Derived.Test.YtelfmddcjlocpaaGreatDoorKRoundNearestsWTab
import Derived.Test.YtelfmddcjlocpaaGreatDoorKRoundNearestsWMore
import Derived.Test.YtelfmddcjlocpaaGreatDoorKRoundNearestsWGuard
import Derived.Laws.StructEq
import Derived.Test.YtelfmddcjlocpaaGreatDoorKRoundNearestsPLenx0
section
set_option linter.unusedVariables false
namespace Go.Proofs.YtelfmddcjlocpaaGreatDoor.PLib
open Go Go.RowKit Go.Proofs.YtelfmddcjlocpaaGreatDoorW.PrintWords Go.Proofs.YtelfmddcjlocpaaGreatDoorW.PrintMore Go.Proofs.YtelfmddcjlocpaaGreatDoor.Given Go.Proofs.YtelfmddcjlocpaaGreatDoor.Px
def binary_Value.f (k : Nat) (a0 : Int) (a1 : Int) : Option (Bool × List Int × Int × Int) := (binary_finite.f k a0 a1).bind fun bt1 => (if bt1.2.2.2.2.2.2 = 0 then ((binary_shape_parts.f bt1.1 bt1.2.1 bt1.2.2.1 bt1.2.2.2.1 bt1.2.2.2.2.2.1).bind fun bt2 => ((binary_number.f k bt1.2.2.2.2.1 bt2.1 bt2.2).bind fun bt3 => (some (bt3.1, bt3.2.1, bt3.2.2.1, bt3.2.2.2)))) else (some (false, ([] : List Int), 0, bt1.2.2.2.2.2.2)))
theorem binary_Value.mono : ∀ a0 a1 k, LeO (binary_Value.f k a0 a1) (binary_Value.f (k + 1) a0 a1) := by
 intro a0 a1 k
 unfold binary_Value.f
 repeat' first
  | (with_reducible exact binary_finite.mono _ _ _)
  | (with_reducible exact binary_number.mono _ _ _ _)
  | (with_reducible exact LeO.refl _)
  | (with_reducible exact LeO.none _)
  | (with_reducible refine LeO.ite ?_ ?_)
  | (with_reducible refine LeO.bind ?_ (fun _ => ?_))
theorem binary_Value.c {k : Nat} {a0 : Int} {a1 : Int} {r : Bool × List Int × Int × Int} (h : binary_Value.f k a0 a1 = some r) : Con Tryz.prog Gw 69 [.s (.i .i64 a0), .s (.i .u64 a1)] (· = .tu [.ag [.b r.1, .sl .u64 r.2.1, .i .i64 r.2.2.1], .s (.i .i64 r.2.2.2)]) := by
 unfold binary_Value.f at h
 obtain ⟨bt1, A1, h⟩ := bnd h
 rcases ite_e h with ⟨c2, h⟩ | ⟨c2, h⟩
 ·obtain ⟨bt2, A3, h⟩ := bnd h
  obtain ⟨bt3, A4, h⟩ := bnd h
  have h := si h; subst h
  exact pth Tryz.func69 [.r (.tu [.ag [.i .i64 bt1.1, .i .i64 bt1.2.1, .i .i64 bt1.2.2.1, .i .u64 bt1.2.2.2.1], .s (.b bt1.2.2.2.2.1), .s (.i .u64 bt1.2.2.2.2.2.1), .s (.i .i64 bt1.2.2.2.2.2.2)]), .br false, .r (.tu [.s (.i .u64 bt2.1), .s (.i .i64 bt2.2)]), .r (.tu [.ag [.b bt3.1, .sl .u64 bt3.2.1, .i .i64 bt3.2.2.1], .s (.i .i64 bt3.2.2.2)])] (fun e => ai (binary_finite.c A1) (ai (n0 c2) (ai (binary_shape_parts.c A3) (ai (binary_number.c A4) e)))) (by kernel_rfl)
 ·have h := si h; subst h
  exact pth Tryz.func69 [.r (.tu [.ag [.i .i64 bt1.1, .i .i64 bt1.2.1, .i .i64 bt1.2.2.1, .i .u64 bt1.2.2.2.1], .s (.b bt1.2.2.2.2.1), .s (.i .u64 bt1.2.2.2.2.2.1), .s (.i .i64 bt1.2.2.2.2.2.2)]), .br true] (fun e => ai (binary_finite.c A1) (ai (n1 c2) e)) (by kernel_rfl)
def binary_Quiet.f (a0 : Int) : Option (Int × Int) := (binary_shapeOf.f a0).bind fun bt1 => (if (bt1.1 == 0 && (bt1.2.1 == 0 && (bt1.2.2.1 == 0 && (bt1.2.2.2 == 0)))) = true then (some (0, 1)) else (some (bt1.2.2.2, 0)))
theorem binary_Quiet.c {a0 : Int} {r : Int × Int} (h : binary_Quiet.f a0 = some r) : Con Tryz.prog Gw 67 [.s (.i .i64 a0)] (· = .tu [.s (.i .u64 r.1), .s (.i .i64 r.2)]) := by
 unfold binary_Quiet.f at h
 obtain ⟨bt1, A1, h⟩ := bnd h
 rcases ite_e h with ⟨c2, h⟩ | ⟨c2, h⟩
 ·have h := si h; subst h
  exact pth Tryz.func67 [.r (.ag [.i .i64 bt1.1, .i .i64 bt1.2.1, .i .i64 bt1.2.2.1, .i .u64 bt1.2.2.2]), .br true] (fun e => ai (binary_shapeOf.c A1) (ai c2 e)) (by kernel_rfl)
 ·have h := si h; subst h
  exact pth Tryz.func67 [.r (.ag [.i .i64 bt1.1, .i .i64 bt1.2.1, .i .i64 bt1.2.2.1, .i .u64 bt1.2.2.2]), .br false] (fun e => ai (binary_shapeOf.c A1) (ai (z0 c2) e)) (by kernel_rfl)
def round_Narrow.f (k : Nat) (a0 : Int) : Option (Int × Int) := (binary_ClassOf.f k 64 a0).bind fun bt1 => ((round_of.f 32).bind fun bt2 => (if bt1.1 = 4 then ((binary_Quiet.f 32).bind fun bt3 => (some (bt3.1, bt3.2))) else (if bt1.1 = 3 then ((round_widths_infinity.f bt2.1 bt2.2.1 bt2.2.2).bind fun t4 => ((round_widths_signed.f bt2.1 bt2.2.1 bt2.2.2 ((shr .u64 a0 63) == 1) t4).bind fun t5 => (some (t5, 0)))) else (if bt1.1 = 0 then ((round_widths_signed.f bt2.1 bt2.2.1 bt2.2.2 ((shr .u64 a0 63) == 1) 0).bind fun t6 => (some (t6, 0))) else ((binary_Value.f k 64 a0).bind fun bt7 => ((round_Nearest.f k 32 bt7.1 bt7.2.1 bt7.2.2.1).bind fun bt8 => (some (bt8.1, bt8.2))))))))
theorem round_Narrow.mono : ∀ a0 k, LeO (round_Narrow.f k a0) (round_Narrow.f (k + 1) a0) := by
 intro a0 k
 unfold round_Narrow.f
 repeat' first
  | (with_reducible exact binary_ClassOf.mono _ _ _)
  | (with_reducible exact binary_Value.mono _ _ _)
  | (with_reducible exact round_Nearest.mono _ _ _ _ _)
  | (with_reducible exact LeO.refl _)
  | (with_reducible exact LeO.none _)
  | (with_reducible refine LeO.ite ?_ ?_)
  | (with_reducible refine LeO.bind ?_ (fun _ => ?_))
theorem round_Narrow.c {k : Nat} {a0 : Int} {r : Int × Int} (h : round_Narrow.f k a0 = some r) : Con Tryz.prog Gw 32 [.s (.i .u64 a0)] (· = .tu [.s (.i .u64 r.1), .s (.i .i64 r.2)]) := by
 unfold round_Narrow.f at h
 obtain ⟨bt1, A1, h⟩ := bnd h
 obtain ⟨bt2, A2, h⟩ := bnd h
 rcases ite_e h with ⟨c3, h⟩ | ⟨c3, h⟩
 ·obtain ⟨bt3, A4, h⟩ := bnd h
  have h := si h; subst h
  exact pth Tryz.func32 [.r (.tu [.s (.i .i64 bt1.1), .s (.i .i64 bt1.2)]), .r (.ag [.i .i64 bt2.1, .i .i64 bt2.2.1, .i .i64 bt2.2.2]), .br true, .r (.tu [.s (.i .u64 bt3.1), .s (.i .i64 bt3.2)])] (fun e => ai (binary_ClassOf.c A1) (ai (round_of.c A2) (ai (by decide : (0 : Int) ≤ 63) (ai (q1 c3) (ai (binary_Quiet.c A4) e))))) (by kernel_rfl)
 ·rcases ite_e h with ⟨c5, h⟩ | ⟨c5, h⟩
  ·obtain ⟨t4, A6, h⟩ := bnd h
   obtain ⟨t5, A7, h⟩ := bnd h
   have h := si h; subst h
   exact pth Tryz.func32 [.r (.tu [.s (.i .i64 bt1.1), .s (.i .i64 bt1.2)]), .r (.ag [.i .i64 bt2.1, .i .i64 bt2.2.1, .i .i64 bt2.2.2]), .br false, .br true, .r (.s (.i .u64 t4)), .r (.s (.i .u64 t5))] (fun e => ai (binary_ClassOf.c A1) (ai (round_of.c A2) (ai (by decide : (0 : Int) ≤ 63) (ai (q0 c3) (ai (q1 c5) (ai (round_widths_infinity.c A6) (ai (round_widths_signed.c A7) e))))))) (by kernel_rfl)
  ·rcases ite_e h with ⟨c8, h⟩ | ⟨c8, h⟩
   ·obtain ⟨t6, A9, h⟩ := bnd h
    have h := si h; subst h
    exact pth Tryz.func32 [.r (.tu [.s (.i .i64 bt1.1), .s (.i .i64 bt1.2)]), .r (.ag [.i .i64 bt2.1, .i .i64 bt2.2.1, .i .i64 bt2.2.2]), .br false, .br false, .br true, .r (.s (.i .u64 t6))] (fun e => ai (binary_ClassOf.c A1) (ai (round_of.c A2) (ai (by decide : (0 : Int) ≤ 63) (ai (q0 c3) (ai (q0 c5) (ai (q1 c8) (ai (round_widths_signed.c A9) e))))))) (by kernel_rfl)
   ·obtain ⟨bt7, A10, h⟩ := bnd h
    obtain ⟨bt8, A11, h⟩ := bnd h
    have h := si h; subst h
    exact pth Tryz.func32 [.r (.tu [.s (.i .i64 bt1.1), .s (.i .i64 bt1.2)]), .r (.ag [.i .i64 bt2.1, .i .i64 bt2.2.1, .i .i64 bt2.2.2]), .br false, .br false, .br false, .r (.tu [.ag [.b bt7.1, .sl .u64 bt7.2.1, .i .i64 bt7.2.2.1], .s (.i .i64 bt7.2.2.2)]), .r (.tu [.s (.i .u64 bt8.1), .s (.i .i64 bt8.2)])] (fun e => ai (binary_ClassOf.c A1) (ai (round_of.c A2) (ai (by decide : (0 : Int) ≤ 63) (ai (q0 c3) (ai (q0 c5) (ai (q0 c8) (ai (binary_Value.c A10) (ai (round_Nearest.c A11) e)))))))) (by kernel_rfl)
end Go.Proofs.YtelfmddcjlocpaaGreatDoor.PLib
end
section
namespace Go.Proofs.YtelfmddcjlocpaaGreatDoor.PRef
open Go.RowKit Go.Proofs.YtelfmddcjlocpaaGreatDoorW.PrintWords Go.Proofs.YtelfmddcjlocpaaGreatDoorW.PrintLast Go.Proofs.YtelfmddcjlocpaaGreatDoorW.PrintMore Go.Proofs.YtelfmddcjlocpaaGreatDoor.Given Go.Proofs.YtelfmddcjlocpaaGreatDoor.GTab
attribute [local go_sem] max2_int min2_int max_two min_two max_three min_three max_four min_four   -- for this text's walks alone
set_option linter.unusedVariables false
set_option linter.unusedSimpArgs false
def errW : Option Int → Value
 | none => .nilIface
 | some c => .iface 0 (.int .i64 c)
theorem errW_none : errW none = .nilIface := rfl
theorem errW_some (c : Int) : errW (some c) = .iface 0 (.int .i64 c) := rfl
theorem info185 : (Tryz.prog.info? 185).map (fun i => (i.zero, i.size, i.bytes)) = some (some (.int .u32 0), 1, 4) := by kernel_rfl
end Go.Proofs.YtelfmddcjlocpaaGreatDoor.PRef
end
