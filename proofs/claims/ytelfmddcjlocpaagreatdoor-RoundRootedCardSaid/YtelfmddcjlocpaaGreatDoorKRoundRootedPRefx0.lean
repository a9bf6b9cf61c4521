/- Functions of the program as plain Lean functions (definitions as the print's), and that the machine's calls do what they do (contracts 'X.c', by Px). Condition: math/bits' table is laid.  -/
import Derived.Test.YtelfmddcjlocpaaGreatDoorKRoundRootedGivenD
import Derived.Test.YtelfmddcjlocpaaGreatDoorKRoundRootedPxTz
import Derived.Test.YtelfmddcjlocpaaGreatDoorKRoundRootedPxL0
import Derived.Test.YtelfmddcjlocpaaGreatDoorKRoundRootedPxL1
import Derived.Test.YtelfmddcjlocpaaGreatDoorProg
import Derived.Below
import Derived.Deep.Draws
import Derived.Deep.AppendLies
import Derived.Maps.AppendAt
import Derived.OwnWalk
import Derived.Laws.BytesArg
import Derived.Laws.MakeOwn
import Derived.Laws.OwnMore
import Derived.Deep.OwnRows
import Derived.Tactics
import Derived.Lib.ConvBytes
import Derived.Laws.Slices
import Derived.WalkKit
import Derived.KernelRfl
import Derived.RowKit3
import Derived.Deep.LoopGhost
import Derived.Deep.QuietTactic
import Derived.BigQuiet
import Derived.WideLaws
import Derived.Deep.DeepCutAuto
import Derived.Deep.CutBlock
import Derived.Deep.RegionHeld3
import Derived.Laws.Rows
import Derived.Lib.AppendStr
import Derived.ArgAppend
import Derived.Laws.IdiomCopy
import Derived.OrdersHeld
import Derived.Laws.BitsLemmas
import Derived.RowKit
import Derived.Test.YtelfmddcjlocpaaGreatDoorKRoundRootedWWords
import Derived.Test.YtelfmddcjlocpaaGreatDoorKRoundRootedWLast
import Derived.Test.YtelfmddcjlocpaaGreatDoorKRoundRootedWTab
import Derived.Test.YtelfmddcjlocpaaGreatDoorKRoundRootedBl
import Derived.Test.YtelfmddcjlocpaaGreatDoorKRoundRootedPLenx1
import Derived.Laws.StructEq
section
set_option linter.unusedVariables false
namespace Go.Proofs.YtelfmddcjlocpaaGreatDoor.PLib
open Go Go.RowKit Go.Proofs.YtelfmddcjlocpaaGreatDoorW.PrintWords Go.Proofs.YtelfmddcjlocpaaGreatDoorW.PrintMore Go.Proofs.YtelfmddcjlocpaaGreatDoor.Given Go.Proofs.YtelfmddcjlocpaaGreatDoor.Px
def round_Cell.j0 : Nat → Int → Int → Bool → Option (Bool × List Int × Int × Bool × List Int × Int × Bool × Int)
 | 0, _, _, _ => none
 | k + 1, x0, x1, x25 => if x25 = true then (some (false, ([] : List Int), 0, false, ([] : List Int), 0, false, 6)) else ((binary_Mid.f k x0 x1).bind fun bt532 => ((binary_Mid.f k x0 (IntKind.u64.wrap (x1 - 1))).bind fun bt539 => (if bt532.1 = true then (some (bt532.1, bt532.2.1, bt532.2.2.1, bt539.1, bt539.2.1, bt539.2.2.1, ((Go.bits .and .u64 x1 1) == 0), 0)) else (some (bt539.1, bt539.2.1, bt539.2.2.1, bt532.1, bt532.2.1, bt532.2.2.1, ((Go.bits .and .u64 x1 1) == 0), 0)))))
def round_Cell.f (k : Nat) (a0 : Int) (a1 : Int) : Option (Bool × List Int × Int × Bool × List Int × Int × Bool × Int) := (binary_ClassOf.f k a0 a1).bind fun bt530 => (if bt530.2 = 0 then (if bt530.1 = 0 then (round_Cell.j0 k a0 a1 (bt530.1 == 0)) else (if bt530.1 = 3 then (round_Cell.j0 k a0 a1 (bt530.1 == 3)) else (round_Cell.j0 k a0 a1 (bt530.1 == 4)))) else (some (false, ([] : List Int), 0, false, ([] : List Int), 0, false, bt530.2)))
theorem round_Cell.mono_l : ∀ k, (∀ y0 y1 y2, LeO (round_Cell.j0 k y0 y1 y2) (round_Cell.j0 (k + 1) y0 y1 y2))
 | 0 => fun _ _ _ r h => by simp [round_Cell.j0] at h
 | k + 1 => by
  have ih0 := round_Cell.mono_l k
  ·intro y0 y1 y2
   unfold round_Cell.j0
   repeat' first
   | (with_reducible exact ih0 _ _ _)
   | (with_reducible exact binary_ClassOf.mono _ _ _)
   | (with_reducible exact binary_Mid.mono _ _ _)
   | (with_reducible exact LeO.refl _)
   | (with_reducible exact LeO.none _)
   | (with_reducible refine LeO.ite ?_ ?_)
   | (with_reducible refine LeO.bind ?_ (fun _ => ?_))
   | exact ih0 _ _ _
   | exact binary_ClassOf.mono _ _ _
   | exact binary_Mid.mono _ _ _
   | exact LeO.none _
   | refine LeO.ite ?_ ?_
   | refine LeO.bind ?_ (fun _ => ?_)
theorem round_Cell.mono : ∀ a0 a1 k, LeO (round_Cell.f k a0 a1) (round_Cell.f (k + 1) a0 a1) := by
 intro a0 a1 k
 have ih0 := round_Cell.mono_l k
 unfold round_Cell.f
 repeat' first
   | (with_reducible exact ih0 _ _ _)
   | (with_reducible exact binary_ClassOf.mono _ _ _)
   | (with_reducible exact binary_Mid.mono _ _ _)
   | (with_reducible exact LeO.refl _)
   | (with_reducible exact LeO.none _)
   | (with_reducible refine LeO.ite ?_ ?_)
   | (with_reducible refine LeO.bind ?_ (fun _ => ?_))
   | exact ih0 _ _ _
   | exact binary_ClassOf.mono _ _ _
   | exact binary_Mid.mono _ _ _
   | exact LeO.none _
   | refine LeO.ite ?_ ?_
   | refine LeO.bind ?_ (fun _ => ?_)
theorem round_Cell.jc : ∀ k : Nat, (∀ (x0 : Int) (x1 : Int) (x25 : Bool) (r : Bool × List Int × Int × Bool × List Int × Int × Bool × Int), round_Cell.j0 k x0 x1 x25 = some r → Fin Tryz.prog Gw 25 (nav (bodyOf Tryz.f25) [1, 1, 1, 0, 1, 0, 1] []) ⟨mkT 57 [(0, .s (.i .i64 x0)), (1, .s (.i .u64 x1)), (4, .s (.lo 0 0)), (25, .s (.b x25))], [some (47, [.b false, .sl .u64 ([]), .i .i64 0, .b false, .sl .u64 ([]), .i .i64 0])]⟩ (· = .tu [.ag [.b r.1, .sl .u64 r.2.1, .i .i64 r.2.2.1, .b r.2.2.2.1, .sl .u64 r.2.2.2.2.1, .i .i64 r.2.2.2.2.2.1], .s (.b r.2.2.2.2.2.2.1), .s (.i .i64 r.2.2.2.2.2.2.2)]))
 | 0 => (fun _ _ _ _ h => nn h)
 | k + 1 => by
  have ih := round_Cell.jc k
  ·intro x0 x1 x25 r h
   rw [round_Cell.j0] at h
   rcases ite_e h with ⟨c1, h⟩ | ⟨c1, h⟩
   ·have h := si h; subst h
    exact jth Tryz.func25 [.br true] (fun e => ai c1 e) (by kernel_rfl)
   ·obtain ⟨bt532, A2, h⟩ := bnd h
    obtain ⟨bt539, A3, h⟩ := bnd h
    rcases ite_e h with ⟨c4, h⟩ | ⟨c4, h⟩
    ·have h := si h; subst h
     exact jth Tryz.func25 [.br false, .r (.tu [.ag [.b bt532.1, .sl .u64 bt532.2.1, .i .i64 bt532.2.2.1], .s (.i .i64 bt532.2.2.2)]), .r (.tu [.ag [.b bt539.1, .sl .u64 bt539.2.1, .i .i64 bt539.2.2.1], .s (.i .i64 bt539.2.2.2)]), .br true] (fun e => ai (z0 c1) (ai (binary_Mid.c A2) (ai (binary_Mid.c A3) (ai c4 e)))) (by kernel_rfl)
    ·have h := si h; subst h
     exact jth Tryz.func25 [.br false, .r (.tu [.ag [.b bt532.1, .sl .u64 bt532.2.1, .i .i64 bt532.2.2.1], .s (.i .i64 bt532.2.2.2)]), .r (.tu [.ag [.b bt539.1, .sl .u64 bt539.2.1, .i .i64 bt539.2.2.1], .s (.i .i64 bt539.2.2.2)]), .br false] (fun e => ai (z0 c1) (ai (binary_Mid.c A2) (ai (binary_Mid.c A3) (ai (z0 c4) e)))) (by kernel_rfl)
theorem round_Cell.c {k : Nat} {a0 : Int} {a1 : Int} {r : Bool × List Int × Int × Bool × List Int × Int × Bool × Int} (h : round_Cell.f k a0 a1 = some r) : Con Tryz.prog Gw 25 [.s (.i .i64 a0), .s (.i .u64 a1)] (· = .tu [.ag [.b r.1, .sl .u64 r.2.1, .i .i64 r.2.2.1, .b r.2.2.2.1, .sl .u64 r.2.2.2.2.1, .i .i64 r.2.2.2.2.2.1], .s (.b r.2.2.2.2.2.2.1), .s (.i .i64 r.2.2.2.2.2.2.2)]) := by
 unfold round_Cell.f at h
 obtain ⟨bt530, A1, h⟩ := bnd h
 rcases ite_e h with ⟨c2, h⟩ | ⟨c2, h⟩
 ·rcases ite_e h with ⟨c3, h⟩ | ⟨c3, h⟩
  ·exact pth Tryz.func25 [.r (.tu [.s (.i .i64 bt530.1), .s (.i .i64 bt530.2)]), .br false, .br true, .cut 0 [0, 1, 4, 25] [0] []] (fun _ => ai (binary_ClassOf.c A1) (ai (n0 c2) (ai (q1 c3) (round_Cell.jc k _ _ _ _ h)))) (by kernel_rfl)
  ·rcases ite_e h with ⟨c4, h⟩ | ⟨c4, h⟩
   ·exact pth Tryz.func25 [.r (.tu [.s (.i .i64 bt530.1), .s (.i .i64 bt530.2)]), .br false, .br false, .br true, .cut 0 [0, 1, 4, 25] [0] []] (fun _ => ai (binary_ClassOf.c A1) (ai (n0 c2) (ai (q0 c3) (ai (q1 c4) (round_Cell.jc k _ _ _ _ h))))) (by kernel_rfl)
   ·exact pth Tryz.func25 [.r (.tu [.s (.i .i64 bt530.1), .s (.i .i64 bt530.2)]), .br false, .br false, .br false, .cut 1 [0, 1, 4, 25] [0] []] (fun _ => ai (binary_ClassOf.c A1) (ai (n0 c2) (ai (q0 c3) (ai (q0 c4) (round_Cell.jc k _ _ _ _ h))))) (by kernel_rfl)
 ·have h := si h; subst h
  exact pth Tryz.func25 [.r (.tu [.s (.i .i64 bt530.1), .s (.i .i64 bt530.2)]), .br true] (fun e => ai (binary_ClassOf.c A1) (ai (n1 c2) e)) (by kernel_rfl)
def dyadic_twin.f (a0_0 : Bool) (l0_1 : List Int) (a0_2 : Int) : Option (Bool × List Int × Int) := (slices_Clone_uint64_uint64.f l0_1).bind fun t715 => (some (a0_0, t715, a0_2))
theorem dyadic_twin.c {a0_0 : Bool} {l0_1 : List Int} {a0_2 : Int} {r : Bool × List Int × Int} (h : dyadic_twin.f a0_0 l0_1 a0_2 = some r) : Con Tryz.prog Gw 49 [.ag [.b a0_0, .sl .u64 l0_1, .i .i64 a0_2]] (· = .ag [.b r.1, .sl .u64 r.2.1, .i .i64 r.2.2]) := by
 unfold dyadic_twin.f at h
 obtain ⟨t715, A1, h⟩ := bnd h
 have h := si h; subst h
 exact pth Tryz.func49 [.r (.s (.sl .u64 t715))] (fun e => ai (slices_Clone_uint64_uint64.c A1) e) (by kernel_rfl)
def dyadic_Neg.f (k : Nat) (a0_0 : Bool) (l0_1 : List Int) (a0_2 : Int) : Option (Bool × List Int × Int × Int) := (dyadic_Form.f k a0_0 l0_1 a0_2).bind fun t720 => (if t720 = true then ((dyadic_twin.f a0_0 l0_1 a0_2).bind fun bt721 => (if bt721.1 = true then (some (false, bt721.2.1, bt721.2.2, 0)) else ((dyadic_nought.f bt721.1 bt721.2.1 bt721.2.2).bind fun t726 => (some (!t726, bt721.2.1, bt721.2.2, 0))))) else (some (false, ([] : List Int), 0, 2)))
theorem dyadic_Neg.mono : ∀ a0 a1 a2 k, LeO (dyadic_Neg.f k a0 a1 a2) (dyadic_Neg.f (k + 1) a0 a1 a2) := by
 intro a0 a1 a2 k
 unfold dyadic_Neg.f
 repeat' first
   | (with_reducible exact dyadic_Form.mono _ _ _ _)
   | (with_reducible exact LeO.refl _)
   | (with_reducible exact LeO.none _)
   | (with_reducible refine LeO.ite ?_ ?_)
   | (with_reducible refine LeO.bind ?_ (fun _ => ?_))
   | exact dyadic_Form.mono _ _ _ _
   | exact LeO.none _
   | refine LeO.ite ?_ ?_
   | refine LeO.bind ?_ (fun _ => ?_)
theorem dyadic_Neg.c {k : Nat} {a0_0 : Bool} {l0_1 : List Int} {a0_2 : Int} {r : Bool × List Int × Int × Int} (h : dyadic_Neg.f k a0_0 l0_1 a0_2 = some r) : Con Tryz.prog Gw 21 [.ag [.b a0_0, .sl .u64 l0_1, .i .i64 a0_2]] (· = .tu [.ag [.b r.1, .sl .u64 r.2.1, .i .i64 r.2.2.1], .s (.i .i64 r.2.2.2)]) := by
 unfold dyadic_Neg.f at h
 obtain ⟨t720, A1, h⟩ := bnd h
 rcases ite_e h with ⟨c2, h⟩ | ⟨c2, h⟩
 ·obtain ⟨bt721, A3, h⟩ := bnd h
  rcases ite_e h with ⟨c4, h⟩ | ⟨c4, h⟩
  ·have h := si h; subst h
   exact pth Tryz.func21 [.r (.s (.b t720)), .br false, .r (.ag [.b bt721.1, .sl .u64 bt721.2.1, .i .i64 bt721.2.2]), .br false, .br false, .br false, .br false] (fun e => ai (dyadic_Form.c A1) (ai (nt1 c2) (ai (dyadic_twin.c A3) (ai (nt1 c4) (ai (nt1 c4) (ai (nt1 c4) (ai (nt1 c4) e))))))) (by kernel_rfl)
  ·obtain ⟨t726, A5, h⟩ := bnd h
   have h := si h; subst h
   exact pth Tryz.func21 [.r (.s (.b t720)), .br false, .r (.ag [.b bt721.1, .sl .u64 bt721.2.1, .i .i64 bt721.2.2]), .br true, .br true, .r (.s (.b t726)), .br true, .br true] (fun e => ai (dyadic_Form.c A1) (ai (nt1 c2) (ai (dyadic_twin.c A3) (ai (nt0 (z0 c4)) (ai (nt0 (z0 c4)) (ai (dyadic_nought.c A5) (ai (nt0 (z0 c4)) (ai (nt0 (z0 c4)) e)))))))) (by kernel_rfl)
 ·have h := si h; subst h
  exact pth Tryz.func21 [.r (.s (.b t720)), .br true] (fun e => ai (dyadic_Form.c A1) (ai (nt0 (z0 c2)) e)) (by kernel_rfl)
end Go.Proofs.YtelfmddcjlocpaaGreatDoor.PLib
end
section
namespace Go.Proofs.YtelfmddcjlocpaaGreatDoor.PRef
open Go.RowKit Go.Proofs.YtelfmddcjlocpaaGreatDoorW.PrintWords Go.Proofs.YtelfmddcjlocpaaGreatDoorW.PrintLast Go.Proofs.YtelfmddcjlocpaaGreatDoorW.PrintMore Go.Proofs.YtelfmddcjlocpaaGreatDoor.Given Go.Proofs.YtelfmddcjlocpaaGreatDoor.GTab
attribute [local go_sem] max2_int min2_int max_two min_two max_three min_three max_four min_four   -- for this text's walks alone
set_option linter.unusedVariables false
set_option linter.unusedSimpArgs false
def errW : Option Int → Value
 | none => .nilIface
 | some c => .iface 0 (.int .i64 c)
theorem errW_none : errW none = .nilIface := rfl
theorem errW_some (c : Int) : errW (some c) = .iface 0 (.int .i64 c) := rfl
theorem info185 : (Tryz.prog.info? 185).map (fun i => (i.zero, i.size, i.bytes)) = some (some (.int .u32 0), 1, 4) := by kernel_rfl
end Go.Proofs.YtelfmddcjlocpaaGreatDoor.PRef
end
