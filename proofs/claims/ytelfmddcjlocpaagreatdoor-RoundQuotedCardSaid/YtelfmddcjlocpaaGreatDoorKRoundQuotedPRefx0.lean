/- Functions of the program as plain Lean functions (definitions as the print's), and that the machine's calls do what they do (contracts 'X.c', by Px). Condition: math/bits' table is laid.  -/
import Derived.Test.YtelfmddcjlocpaaGreatDoorKRoundQuotedGivenD
import Derived.Test.YtelfmddcjlocpaaGreatDoorKRoundQuotedPxTz
import Derived.Test.YtelfmddcjlocpaaGreatDoorKRoundQuotedPxL0
import Derived.Test.YtelfmddcjlocpaaGreatDoorKRoundQuotedPxL1
import Derived.Test.YtelfmddcjlocpaaGreatDoorProg
import Derived.Below
import Derived.Deep.Draws
import Derived.Deep.AppendLies
import Derived.Maps.AppendAt
import Derived.OwnWalk
import Derived.Laws.BytesArg
import Derived.Laws.MakeOwn
import Derived.Laws.OwnMore
import Derived.Deep.OwnRows
import Derived.Tactics
import Derived.Lib.ConvBytes
import Derived.Laws.Slices
import Derived.WalkKit
import Derived.KernelRfl
import Derived.RowKit3
import Derived.Deep.LoopGhost
import Derived.Deep.QuietTactic
import Derived.BigQuiet
import Derived.WideLaws
import Derived.Deep.DeepCutAuto
import Derived.Deep.CutBlock
import Derived.Deep.RegionHeld3
import Derived.Laws.Rows
import Derived.Lib.AppendStr
import Derived.ArgAppend
import Derived.Laws.IdiomCopy
import Derived.OrdersHeld
import Derived.Laws.BitsLemmas
import Derived.RowKit
import Derived.Test.YtelfmddcjlocpaaGreatDoorKRoundQuotedWWords
import Derived.Test.YtelfmddcjlocpaaGreatDoorKRoundQuotedWLast
import Derived.Test.YtelfmddcjlocpaaGreatDoorKRoundQuotedWTab
import Derived.Test.YtelfmddcjlocpaaGreatDoorKRoundQuotedBl
import Derived.Test.YtelfmddcjlocpaaGreatDoorKRoundQuotedPLenx1
import Derived.Laws.StructEq
section
set_option linter.unusedVariables false
namespace Go.Proofs.YtelfmddcjlocpaaGreatDoor.PLib
open Go Go.RowKit Go.Proofs.YtelfmddcjlocpaaGreatDoorW.PrintWords Go.Proofs.YtelfmddcjlocpaaGreatDoorW.PrintMore Go.Proofs.YtelfmddcjlocpaaGreatDoor.Given Go.Proofs.YtelfmddcjlocpaaGreatDoor.Px
def binary_rank.f (k : Nat) (a0 : Int) (a1 : Int) : Option (Int × Int × Int × Int × Int × Int) := (binary_take.f k a0 a1).bind fun bt556 => (if bt556.2.2.2.2.2.2 = 0 then ((binary_shape_inf.f bt556.1 bt556.2.1 bt556.2.2.1 bt556.2.2.2.1).bind fun t564 => (if bt556.2.2.2.2.2.1 > t564 then (some (bt556.1, bt556.2.1, bt556.2.2.1, bt556.2.2.2.1, 0, 6)) else (if bt556.2.2.2.2.1 = true then (some (bt556.1, bt556.2.1, bt556.2.2.1, bt556.2.2.2.1, wrap64 (-(wrap64 (bt556.2.2.2.2.2.1))), 0)) else (some (bt556.1, bt556.2.1, bt556.2.2.1, bt556.2.2.2.1, wrap64 (bt556.2.2.2.2.2.1), 0))))) else (some (bt556.1, bt556.2.1, bt556.2.2.1, bt556.2.2.2.1, 0, bt556.2.2.2.2.2.2)))
theorem binary_rank.mono : ∀ a0 a1 k, LeO (binary_rank.f k a0 a1) (binary_rank.f (k + 1) a0 a1) := by
 intro a0 a1 k
 unfold binary_rank.f
 repeat' first
   | (with_reducible exact binary_take.mono _ _ _)
   | (with_reducible exact LeO.refl _)
   | (with_reducible exact LeO.none _)
   | (with_reducible refine LeO.ite ?_ ?_)
   | (with_reducible refine LeO.bind ?_ (fun _ => ?_))
   | exact binary_take.mono _ _ _
   | exact LeO.none _
   | refine LeO.ite ?_ ?_
   | refine LeO.bind ?_ (fun _ => ?_)
theorem binary_rank.c {k : Nat} {a0 : Int} {a1 : Int} {r : Int × Int × Int × Int × Int × Int} (h : binary_rank.f k a0 a1 = some r) : Con Tryz.prog Gw 95 [.s (.i .i64 a0), .s (.i .u64 a1)] (· = .tu [.ag [.i .i64 r.1, .i .i64 r.2.1, .i .i64 r.2.2.1, .i .u64 r.2.2.2.1], .s (.i .i64 r.2.2.2.2.1), .s (.i .i64 r.2.2.2.2.2)]) := by
 unfold binary_rank.f at h
 obtain ⟨bt556, A1, h⟩ := bnd h
 rcases ite_e h with ⟨c2, h⟩ | ⟨c2, h⟩
 ·obtain ⟨t564, A3, h⟩ := bnd h
  rcases ite_e h with ⟨c4, h⟩ | ⟨c4, h⟩
  ·have h := si h; subst h
   exact pth Tryz.func95 [.r (.tu [.ag [.i .i64 bt556.1, .i .i64 bt556.2.1, .i .i64 bt556.2.2.1, .i .u64 bt556.2.2.2.1], .s (.b bt556.2.2.2.2.1), .s (.i .u64 bt556.2.2.2.2.2.1), .s (.i .i64 bt556.2.2.2.2.2.2)]), .br false, .r (.s (.i .u64 t564)), .br true] (fun e => ai (binary_take.c A1) (ai (n0 c2) (ai (binary_shape_inf.c A3) (ai (d1 c4) e)))) (by kernel_rfl)
  ·rcases ite_e h with ⟨c5, h⟩ | ⟨c5, h⟩
   ·have h := si h; subst h
    exact pth Tryz.func95 [.r (.tu [.ag [.i .i64 bt556.1, .i .i64 bt556.2.1, .i .i64 bt556.2.2.1, .i .u64 bt556.2.2.2.1], .s (.b bt556.2.2.2.2.1), .s (.i .u64 bt556.2.2.2.2.2.1), .s (.i .i64 bt556.2.2.2.2.2.2)]), .br false, .r (.s (.i .u64 t564)), .br false, .br true] (fun e => ai (binary_take.c A1) (ai (n0 c2) (ai (binary_shape_inf.c A3) (ai (d0 c4) (ai c5 e))))) (by kernel_rfl)
   ·have h := si h; subst h
    exact pth Tryz.func95 [.r (.tu [.ag [.i .i64 bt556.1, .i .i64 bt556.2.1, .i .i64 bt556.2.2.1, .i .u64 bt556.2.2.2.1], .s (.b bt556.2.2.2.2.1), .s (.i .u64 bt556.2.2.2.2.2.1), .s (.i .i64 bt556.2.2.2.2.2.2)]), .br false, .r (.s (.i .u64 t564)), .br false, .br false] (fun e => ai (binary_take.c A1) (ai (n0 c2) (ai (binary_shape_inf.c A3) (ai (d0 c4) (ai (z0 c5) e))))) (by kernel_rfl)
 ·have h := si h; subst h
  exact pth Tryz.func95 [.r (.tu [.ag [.i .i64 bt556.1, .i .i64 bt556.2.1, .i .i64 bt556.2.2.1, .i .u64 bt556.2.2.2.1], .s (.b bt556.2.2.2.2.1), .s (.i .u64 bt556.2.2.2.2.2.1), .s (.i .i64 bt556.2.2.2.2.2.2)]), .br true] (fun e => ai (binary_take.c A1) (ai (n1 c2) e)) (by kernel_rfl)
def binary_Rank.f (k : Nat) (a0 : Int) (a1 : Int) : Option (Int × Int) := (binary_rank.f k a0 a1).bind fun bt577 => (some (bt577.2.2.2.2.1, bt577.2.2.2.2.2))
theorem binary_Rank.mono : ∀ a0 a1 k, LeO (binary_Rank.f k a0 a1) (binary_Rank.f (k + 1) a0 a1) := by
 intro a0 a1 k
 unfold binary_Rank.f
 repeat' first
   | (with_reducible exact binary_rank.mono _ _ _)
   | (with_reducible exact LeO.refl _)
   | (with_reducible exact LeO.none _)
   | (with_reducible refine LeO.ite ?_ ?_)
   | (with_reducible refine LeO.bind ?_ (fun _ => ?_))
   | exact binary_rank.mono _ _ _
   | exact LeO.none _
   | refine LeO.ite ?_ ?_
   | refine LeO.bind ?_ (fun _ => ?_)
theorem binary_Rank.c {k : Nat} {a0 : Int} {a1 : Int} {r : Int × Int} (h : binary_Rank.f k a0 a1 = some r) : Con Tryz.prog Gw 48 [.s (.i .i64 a0), .s (.i .u64 a1)] (· = .tu [.s (.i .i64 r.1), .s (.i .i64 r.2)]) := by
 unfold binary_Rank.f at h
 obtain ⟨bt577, A1, h⟩ := bnd h
 have h := si h; subst h
 exact pth Tryz.func48 [.r (.tu [.ag [.i .i64 bt577.1, .i .i64 bt577.2.1, .i .i64 bt577.2.2.1, .i .u64 bt577.2.2.2.1], .s (.i .i64 bt577.2.2.2.2.1), .s (.i .i64 bt577.2.2.2.2.2)])] (fun e => ai (binary_rank.c A1) e) (by kernel_rfl)
def gnomonlaw08_rank.f (k : Nat) (a0 : Int) (a1 : Int) : Option (Int) := (binary_Rank.f k a0 a1).bind fun bt584 => (some bt584.1)
theorem gnomonlaw08_rank.mono : ∀ a0 a1 k, LeO (gnomonlaw08_rank.f k a0 a1) (gnomonlaw08_rank.f (k + 1) a0 a1) := by
 intro a0 a1 k
 unfold gnomonlaw08_rank.f
 repeat' first
   | (with_reducible exact binary_Rank.mono _ _ _)
   | (with_reducible exact LeO.refl _)
   | (with_reducible exact LeO.none _)
   | (with_reducible refine LeO.ite ?_ ?_)
   | (with_reducible refine LeO.bind ?_ (fun _ => ?_))
   | exact binary_Rank.mono _ _ _
   | exact LeO.none _
   | refine LeO.ite ?_ ?_
   | refine LeO.bind ?_ (fun _ => ?_)
theorem gnomonlaw08_rank.c {k : Nat} {a0 : Int} {a1 : Int} {r : Int} (h : gnomonlaw08_rank.f k a0 a1 = some r) : Con Tryz.prog Gw 20 [.s (.i .i64 a0), .s (.i .u64 a1)] (· = .s (.i .i64 r)) := by
 unfold gnomonlaw08_rank.f at h
 obtain ⟨bt584, A1, h⟩ := bnd h
 have h := si h; subst h
 exact pth Tryz.func20 [.r (.tu [.s (.i .i64 bt584.1), .s (.i .i64 bt584.2)])] (fun e => ai (binary_Rank.c A1) e) (by kernel_rfl)
def gnomonlaw08_sign.f (a0 : Int) : Option (Int) := if 0 ≤ (wrap64 (a0 - 1)) then (some (shl .u64 1 (wrap64 (a0 - 1)))) else (none)
theorem gnomonlaw08_sign.c {a0 : Int} {r : Int} (h : gnomonlaw08_sign.f a0 = some r) : Con Tryz.prog Gw 22 [.s (.i .i64 a0)] (· = .s (.i .u64 r)) := by
 unfold gnomonlaw08_sign.f at h
 rcases ite_e h with ⟨c1, h⟩ | ⟨c1, h⟩
 ·have h := si h; subst h
  exact pth Tryz.func22 [] (fun e => ai c1 e) (by kernel_rfl)
 ·cases h
def dyadic_twin.f (a0_0 : Bool) (l0_1 : List Int) (a0_2 : Int) : Option (Bool × List Int × Int) := (slices_Clone_uint64_uint64.f l0_1).bind fun t715 => (some (a0_0, t715, a0_2))
theorem dyadic_twin.c {a0_0 : Bool} {l0_1 : List Int} {a0_2 : Int} {r : Bool × List Int × Int} (h : dyadic_twin.f a0_0 l0_1 a0_2 = some r) : Con Tryz.prog Gw 49 [.ag [.b a0_0, .sl .u64 l0_1, .i .i64 a0_2]] (· = .ag [.b r.1, .sl .u64 r.2.1, .i .i64 r.2.2]) := by
 unfold dyadic_twin.f at h
 obtain ⟨t715, A1, h⟩ := bnd h
 have h := si h; subst h
 exact pth Tryz.func49 [.r (.s (.sl .u64 t715))] (fun e => ai (slices_Clone_uint64_uint64.c A1) e) (by kernel_rfl)
def dyadic_Neg.f (k : Nat) (a0_0 : Bool) (l0_1 : List Int) (a0_2 : Int) : Option (Bool × List Int × Int × Int) := (dyadic_Form.f k a0_0 l0_1 a0_2).bind fun t720 => (if t720 = true then ((dyadic_twin.f a0_0 l0_1 a0_2).bind fun bt721 => (if bt721.1 = true then (some (false, bt721.2.1, bt721.2.2, 0)) else ((dyadic_nought.f bt721.1 bt721.2.1 bt721.2.2).bind fun t726 => (some (!t726, bt721.2.1, bt721.2.2, 0))))) else (some (false, ([] : List Int), 0, 2)))
theorem dyadic_Neg.mono : ∀ a0 a1 a2 k, LeO (dyadic_Neg.f k a0 a1 a2) (dyadic_Neg.f (k + 1) a0 a1 a2) := by
 intro a0 a1 a2 k
 unfold dyadic_Neg.f
 repeat' first
   | (with_reducible exact dyadic_Form.mono _ _ _ _)
   | (with_reducible exact LeO.refl _)
   | (with_reducible exact LeO.none _)
   | (with_reducible refine LeO.ite ?_ ?_)
   | (with_reducible refine LeO.bind ?_ (fun _ => ?_))
   | exact dyadic_Form.mono _ _ _ _
   | exact LeO.none _
   | refine LeO.ite ?_ ?_
   | refine LeO.bind ?_ (fun _ => ?_)
theorem dyadic_Neg.c {k : Nat} {a0_0 : Bool} {l0_1 : List Int} {a0_2 : Int} {r : Bool × List Int × Int × Int} (h : dyadic_Neg.f k a0_0 l0_1 a0_2 = some r) : Con Tryz.prog Gw 21 [.ag [.b a0_0, .sl .u64 l0_1, .i .i64 a0_2]] (· = .tu [.ag [.b r.1, .sl .u64 r.2.1, .i .i64 r.2.2.1], .s (.i .i64 r.2.2.2)]) := by
 unfold dyadic_Neg.f at h
 obtain ⟨t720, A1, h⟩ := bnd h
 rcases ite_e h with ⟨c2, h⟩ | ⟨c2, h⟩
 ·obtain ⟨bt721, A3, h⟩ := bnd h
  rcases ite_e h with ⟨c4, h⟩ | ⟨c4, h⟩
  ·have h := si h; subst h
   exact pth Tryz.func21 [.r (.s (.b t720)), .br false, .r (.ag [.b bt721.1, .sl .u64 bt721.2.1, .i .i64 bt721.2.2]), .br false, .br false, .br false, .br false] (fun e => ai (dyadic_Form.c A1) (ai (nt1 c2) (ai (dyadic_twin.c A3) (ai (nt1 c4) (ai (nt1 c4) (ai (nt1 c4) (ai (nt1 c4) e))))))) (by kernel_rfl)
  ·obtain ⟨t726, A5, h⟩ := bnd h
   have h := si h; subst h
   exact pth Tryz.func21 [.r (.s (.b t720)), .br false, .r (.ag [.b bt721.1, .sl .u64 bt721.2.1, .i .i64 bt721.2.2]), .br true, .br true, .r (.s (.b t726)), .br true, .br true] (fun e => ai (dyadic_Form.c A1) (ai (nt1 c2) (ai (dyadic_twin.c A3) (ai (nt0 (z0 c4)) (ai (nt0 (z0 c4)) (ai (dyadic_nought.c A5) (ai (nt0 (z0 c4)) (ai (nt0 (z0 c4)) e)))))))) (by kernel_rfl)
 ·have h := si h; subst h
  exact pth Tryz.func21 [.r (.s (.b t720)), .br true] (fun e => ai (dyadic_Form.c A1) (ai (nt0 (z0 c2)) e)) (by kernel_rfl)
end Go.Proofs.YtelfmddcjlocpaaGreatDoor.PLib
end
section
namespace Go.Proofs.YtelfmddcjlocpaaGreatDoor.PRef
open Go.RowKit Go.Proofs.YtelfmddcjlocpaaGreatDoorW.PrintWords Go.Proofs.YtelfmddcjlocpaaGreatDoorW.PrintLast Go.Proofs.YtelfmddcjlocpaaGreatDoorW.PrintMore Go.Proofs.YtelfmddcjlocpaaGreatDoor.Given Go.Proofs.YtelfmddcjlocpaaGreatDoor.GTab
attribute [local go_sem] max2_int min2_int max_two min_two max_three min_three max_four min_four   -- for this text's walks alone
set_option linter.unusedVariables false
set_option linter.unusedSimpArgs false
def errW : Option Int → Value
 | none => .nilIface
 | some c => .iface 0 (.int .i64 c)
theorem errW_none : errW none = .nilIface := rfl
theorem errW_some (c : Int) : errW (some c) = .iface 0 (.int .i64 c) := rfl
theorem info185 : (Tryz.prog.info? 185).map (fun i => (i.zero, i.size, i.bytes)) = some (some (.int .u32 0), 1, 4) := by kernel_rfl
end Go.Proofs.YtelfmddcjlocpaaGreatDoor.PRef
end
