/- Functions of the program as plain Lean functions (definitions as the print's), and that the machine's calls do what they do (contracts 'X.c', by Px). Condition: math/bits' table is laid. -/
import Derived.Test.YtelfmddcjlocpaaDoorKAcceptMiddlesPxBr
import Derived.Test.YtelfmddcjlocpaaDoorKAcceptMiddlesPxGiven
import Derived.Test.YtelfmddcjlocpaaDoorProg
import Derived.Test.YtelfmddcjlocpaaDoorKAcceptMiddlesGiven
import Derived.Below
import Derived.Deep.Draws
import Derived.Deep.AppendLies
import Derived.Maps.AppendAt
import Derived.OwnWalk
import Derived.Laws.BytesArg
import Derived.Laws.MakeOwn
import Derived.Laws.OwnMore
import Derived.Deep.OwnRows
import Derived.Tactics
import Derived.Lib.ConvBytes
import Derived.Laws.Slices
import Derived.WalkKit
import Derived.KernelRfl
import Derived.RowKit3
import Derived.Deep.LoopGhost
import Derived.Deep.QuietTactic
import Derived.BigQuiet
import Derived.WideLaws
import Derived.Deep.DeepCutAuto
import Derived.Deep.CutBlock
import Derived.Deep.RegionHeld3
import Derived.Laws.Rows
import Derived.Lib.AppendStr
import Derived.ArgAppend
import Derived.Laws.IdiomCopy
import Derived.OrdersHeld
import Derived.Laws.BitsLemmas
import Derived.RowKit
import Derived.Test.YtelfmddcjlocpaaDoorKAcceptMiddlesWWords
import Derived.Test.YtelfmddcjlocpaaDoorKAcceptMiddlesBl
import Derived.Test.YtelfmddcjlocpaaDoorKAcceptMiddlesWInv
import Derived.Laws.StructEq
import Derived.Laws.CopyOwn
import Derived.Test.YtelfmddcjlocpaaDoorKAcceptMiddlesPxL0
import Derived.Test.YtelfmddcjlocpaaDoorKAcceptMiddlesPxL1
import Derived.Test.YtelfmddcjlocpaaDoorKAcceptMiddlesRp4
import Derived.Test.YtelfmddcjlocpaaDoorKAcceptMiddlesPxL4
set_option linter.unusedVariables false
namespace Go.Proofs.YtelfmddcjlocpaaDoor.PLib
open Go Go.RowKit Go.Proofs.YtelfmddcjlocpaaDoorW.PrintWords Go.Proofs.YtelfmddcjlocpaaDoorW.PrintMore Go.Proofs.YtelfmddcjlocpaaDoor.Given Go.Proofs.YtelfmddcjlocpaaDoor.Px
def num_Add.f (a0_0 : Bool) (l0_1 : List Int) (a1_0 : Bool) (l1_1 : List Int) : Option (Bool × List Int × Int) := (num_Form.f a0_0 l0_1).bind fun t1 => (if t1 = true then ((num_Form.f a1_0 l1_1).bind fun t2 => (if t2 = true then (if a0_0 = a1_0 then ((nat_Add.f l0_1 l1_1).bind fun bt3 => ((num_told.f a0_0 bt3.1 bt3.2).bind fun bt4 => (some (bt4.1, bt4.2.1, bt4.2.2)))) else ((nat_Cmp.f l0_1 l1_1).bind fun t5 => (if t5 < 0 then ((nat_Sub.f l1_1 l0_1).bind fun bt6 => ((num_told.f a1_0 bt6.1 bt6.2).bind fun bt7 => (some (bt7.1, bt7.2.1, bt7.2.2)))) else ((nat_Sub.f l0_1 l1_1).bind fun bt8 => ((num_told.f a0_0 bt8.1 bt8.2).bind fun bt9 => (some (bt9.1, bt9.2.1, bt9.2.2))))))) else (some (false, ([] : List Int), 2)))) else (some (false, ([] : List Int), 2)))
theorem num_Add.c {a0_0 : Bool} {l0_1 : List Int} {a1_0 : Bool} {l1_1 : List Int} {r : Bool × List Int × Int} (h : num_Add.f a0_0 l0_1 a1_0 l1_1 = some r) : Con Tryd.prog Gw 61 [.ag [.b a0_0, .sl .u64 l0_1], .ag [.b a1_0, .sl .u64 l1_1]] (· = .tu [.ag [.b r.1, .sl .u64 r.2.1], .s (.i .i64 r.2.2)]) := by
 unfold num_Add.f at h
 obtain ⟨t1, A1, h⟩ := bnd h
 rcases ite_e h with ⟨c2, h⟩ | ⟨c2, h⟩
 ·obtain ⟨t2, A3, h⟩ := bnd h
  rcases ite_e h with ⟨c4, h⟩ | ⟨c4, h⟩
  ·rcases ite_e h with ⟨c5, h⟩ | ⟨c5, h⟩
   ·obtain ⟨bt3, A6, h⟩ := bnd h
    obtain ⟨bt4, A7, h⟩ := bnd h
    have h := si h; subst h
    exact pth Tryd.func61 [.r (.s (.b t1)), .br false, .br false, .r (.s (.b t2)), .br false, .br false, .br false, .br true, .r (.tu [.s (.sl .u64 bt3.1), .s (.i .i64 bt3.2)]), .r (.tu [.ag [.b bt4.1, .sl .u64 bt4.2.1], .s (.i .i64 bt4.2.2)])] (fun e => ai (num_Form.c A1) (ai (nt1 c2) (ai (nt1 c2) (ai (num_Form.c A3) (ai (nt1 c2) (ai (nt1 c2) (ai (nt1 c4) (ai (q1 c5) (ai (nat_Add.c A6) (ai (num_told.c A7) e)))))))))) (by kernel_rfl)
   ·obtain ⟨t5, A8, h⟩ := bnd h
    rcases ite_e h with ⟨c9, h⟩ | ⟨c9, h⟩
    ·obtain ⟨bt6, A10, h⟩ := bnd h
     obtain ⟨bt7, A11, h⟩ := bnd h
     have h := si h; subst h
     exact pth Tryd.func61 [.r (.s (.b t1)), .br false, .br false, .r (.s (.b t2)), .br false, .br false, .br false, .br false, .r (.s (.i .i64 t5)), .br true, .r (.tu [.s (.sl .u64 bt6.1), .s (.i .i64 bt6.2)]), .r (.tu [.ag [.b bt7.1, .sl .u64 bt7.2.1], .s (.i .i64 bt7.2.2)])] (fun e => ai (num_Form.c A1) (ai (nt1 c2) (ai (nt1 c2) (ai (num_Form.c A3) (ai (nt1 c2) (ai (nt1 c2) (ai (nt1 c4) (ai (q0 c5) (ai (nat_Cmp.c A8) (ai (d1 c9) (ai (nat_Sub.c A10) (ai (num_told.c A11) e)))))))))))) (by kernel_rfl)
    ·obtain ⟨bt8, A12, h⟩ := bnd h
     obtain ⟨bt9, A13, h⟩ := bnd h
     have h := si h; subst h
     exact pth Tryd.func61 [.r (.s (.b t1)), .br false, .br false, .r (.s (.b t2)), .br false, .br false, .br false, .br false, .r (.s (.i .i64 t5)), .br false, .r (.tu [.s (.sl .u64 bt8.1), .s (.i .i64 bt8.2)]), .r (.tu [.ag [.b bt9.1, .sl .u64 bt9.2.1], .s (.i .i64 bt9.2.2)])] (fun e => ai (num_Form.c A1) (ai (nt1 c2) (ai (nt1 c2) (ai (num_Form.c A3) (ai (nt1 c2) (ai (nt1 c2) (ai (nt1 c4) (ai (q0 c5) (ai (nat_Cmp.c A8) (ai (d0 c9) (ai (nat_Sub.c A12) (ai (num_told.c A13) e)))))))))))) (by kernel_rfl)
  ·have h := si h; subst h
   exact pth Tryd.func61 [.r (.s (.b t1)), .br false, .br false, .r (.s (.b t2)), .br false, .br false, .br true] (fun e => ai (num_Form.c A1) (ai (nt1 c2) (ai (nt1 c2) (ai (num_Form.c A3) (ai (nt1 c2) (ai (nt1 c2) (ai (nt0 (z0 c4)) e))))))) (by kernel_rfl)
 ·have h := si h; subst h
  exact pth Tryd.func61 [.r (.s (.b t1)), .br true, .br true, .br true, .br true, .br true] (fun e => ai (num_Form.c A1) (ai (nt0 (z0 c2)) (ai (nt0 (z0 c2)) (ai (nt0 (z0 c2)) (ai (nt0 (z0 c2)) (ai tt e)))))) (by kernel_rfl)
def dyadic_Add.f (k : Nat) (a0_0 : Bool) (l0_1 : List Int) (a0_2 : Int) (a1_0 : Bool) (l1_1 : List Int) (a1_2 : Int) : Option (Bool × List Int × Int × Int) := (dyadic_Form.f k a0_0 l0_1 a0_2).bind fun t1 => (if t1 = true then ((dyadic_Form.f k a1_0 l1_1 a1_2).bind fun t2 => (if t2 = true then ((dyadic_nought.f a0_0 l0_1 a0_2).bind fun t3 => (if t3 = true then ((dyadic_twin.f a1_0 l1_1 a1_2).bind fun bt4 => (some (bt4.1, bt4.2.1, bt4.2.2, 0))) else ((dyadic_nought.f a1_0 l1_1 a1_2).bind fun t5 => (if t5 = true then ((dyadic_twin.f a0_0 l0_1 a0_2).bind fun bt6 => (some (bt6.1, bt6.2.1, bt6.2.2, 0))) else ((num_Shl.f a0_0 l0_1 (wrap64 (a0_2 - (mn a0_2 a1_2)))).bind fun bt7 => ((num_Shl.f a1_0 l1_1 (wrap64 (a1_2 - (mn a0_2 a1_2)))).bind fun bt8 => (if bt7.2.2 = 0 then (if bt8.2.2 = 0 then ((num_Add.f bt7.1 bt7.2.1 bt8.1 bt8.2.1).bind fun bt9 => (if bt9.2.2 = 0 then ((dyadic_Make.f k bt9.1 bt9.2.1 (mn a0_2 a1_2)).bind fun bt10 => (some (bt10.1, bt10.2.1, bt10.2.2.1, bt10.2.2.2))) else (some (false, ([] : List Int), 0, bt9.2.2)))) else (some (false, ([] : List Int), 0, 5))) else (some (false, ([] : List Int), 0, 5))))))))) else (some (false, ([] : List Int), 0, 2)))) else (some (false, ([] : List Int), 0, 2)))
theorem dyadic_Add.c {k : Nat} {a0_0 : Bool} {l0_1 : List Int} {a0_2 : Int} {a1_0 : Bool} {l1_1 : List Int} {a1_2 : Int} {r : Bool × List Int × Int × Int} (h : dyadic_Add.f k a0_0 l0_1 a0_2 a1_0 l1_1 a1_2 = some r) : Con Tryd.prog Gw 32 [.ag [.b a0_0, .sl .u64 l0_1, .i .i64 a0_2], .ag [.b a1_0, .sl .u64 l1_1, .i .i64 a1_2]] (· = .tu [.ag [.b r.1, .sl .u64 r.2.1, .i .i64 r.2.2.1], .s (.i .i64 r.2.2.2)]) := by
 unfold dyadic_Add.f at h
 obtain ⟨t1, A1, h⟩ := bnd h
 rcases ite_e h with ⟨c2, h⟩ | ⟨c2, h⟩
 ·obtain ⟨t2, A3, h⟩ := bnd h
  rcases ite_e h with ⟨c4, h⟩ | ⟨c4, h⟩
  ·obtain ⟨t3, A5, h⟩ := bnd h
   rcases ite_e h with ⟨c6, h⟩ | ⟨c6, h⟩
   ·obtain ⟨bt4, A7, h⟩ := bnd h
    have h := si h; subst h
    exact pth Tryd.func32 [.r (.s (.b t1)), .br false, .br false, .r (.s (.b t2)), .br false, .br false, .br false, .r (.s (.b t3)), .br true, .r (.ag [.b bt4.1, .sl .u64 bt4.2.1, .i .i64 bt4.2.2])] (fun e => ai (dyadic_Form.c A1) (ai (nt1 c2) (ai (nt1 c2) (ai (dyadic_Form.c A3) (ai (nt1 c2) (ai (nt1 c2) (ai (nt1 c4) (ai (dyadic_nought.c A5) (ai c6 (ai (dyadic_twin.c A7) e)))))))))) (by kernel_rfl)
   ·obtain ⟨t5, A8, h⟩ := bnd h
    rcases ite_e h with ⟨c9, h⟩ | ⟨c9, h⟩
    ·obtain ⟨bt6, A10, h⟩ := bnd h
     have h := si h; subst h
     exact pth Tryd.func32 [.r (.s (.b t1)), .br false, .br false, .r (.s (.b t2)), .br false, .br false, .br false, .r (.s (.b t3)), .br false, .r (.s (.b t5)), .br true, .r (.ag [.b bt6.1, .sl .u64 bt6.2.1, .i .i64 bt6.2.2])] (fun e => ai (dyadic_Form.c A1) (ai (nt1 c2) (ai (nt1 c2) (ai (dyadic_Form.c A3) (ai (nt1 c2) (ai (nt1 c2) (ai (nt1 c4) (ai (dyadic_nought.c A5) (ai (z0 c6) (ai (dyadic_nought.c A8) (ai c9 (ai (dyadic_twin.c A10) e)))))))))))) (by kernel_rfl)
    ·obtain ⟨bt7, A11, h⟩ := bnd h
     obtain ⟨bt8, A12, h⟩ := bnd h
     rcases ite_e h with ⟨c13, h⟩ | ⟨c13, h⟩
     ·rcases ite_e h with ⟨c14, h⟩ | ⟨c14, h⟩
      ·obtain ⟨bt9, A15, h⟩ := bnd h
       rcases ite_e h with ⟨c16, h⟩ | ⟨c16, h⟩
       ·obtain ⟨bt10, A17, h⟩ := bnd h
        have h := si h; subst h
        exact pth Tryd.func32 [.r (.s (.b t1)), .br false, .br false, .r (.s (.b t2)), .br false, .br false, .br false, .r (.s (.b t3)), .br false, .r (.s (.b t5)), .br false, .r (.tu [.ag [.b bt7.1, .sl .u64 bt7.2.1], .s (.i .i64 bt7.2.2)]), .r (.tu [.ag [.b bt8.1, .sl .u64 bt8.2.1], .s (.i .i64 bt8.2.2)]), .br false, .br false, .br false, .br false, .r (.tu [.ag [.b bt9.1, .sl .u64 bt9.2.1], .s (.i .i64 bt9.2.2)]), .br false, .r (.tu [.ag [.b bt10.1, .sl .u64 bt10.2.1, .i .i64 bt10.2.2.1], .s (.i .i64 bt10.2.2.2)])] (fun e => ai (dyadic_Form.c A1) (ai (nt1 c2) (ai (nt1 c2) (ai (dyadic_Form.c A3) (ai (nt1 c2) (ai (nt1 c2) (ai (nt1 c4) (ai (dyadic_nought.c A5) (ai (z0 c6) (ai (dyadic_nought.c A8) (ai (z0 c9) (ai (num_Shl.c A11) (ai (num_Shl.c A12) (ai (n0 c13) (ai (n0 c13) (ai (n0 c13) (ai (n0 c14) (ai (num_Add.c A15) (ai (n0 c16) (ai (dyadic_Make.c A17) e)))))))))))))))))))) (by kernel_rfl)
       ·have h := si h; subst h
        exact pth Tryd.func32 [.r (.s (.b t1)), .br false, .br false, .r (.s (.b t2)), .br false, .br false, .br false, .r (.s (.b t3)), .br false, .r (.s (.b t5)), .br false, .r (.tu [.ag [.b bt7.1, .sl .u64 bt7.2.1], .s (.i .i64 bt7.2.2)]), .r (.tu [.ag [.b bt8.1, .sl .u64 bt8.2.1], .s (.i .i64 bt8.2.2)]), .br false, .br false, .br false, .br false, .r (.tu [.ag [.b bt9.1, .sl .u64 bt9.2.1], .s (.i .i64 bt9.2.2)]), .br true] (fun e => ai (dyadic_Form.c A1) (ai (nt1 c2) (ai (nt1 c2) (ai (dyadic_Form.c A3) (ai (nt1 c2) (ai (nt1 c2) (ai (nt1 c4) (ai (dyadic_nought.c A5) (ai (z0 c6) (ai (dyadic_nought.c A8) (ai (z0 c9) (ai (num_Shl.c A11) (ai (num_Shl.c A12) (ai (n0 c13) (ai (n0 c13) (ai (n0 c13) (ai (n0 c14) (ai (num_Add.c A15) (ai (n1 c16) e))))))))))))))))))) (by kernel_rfl)
      ·have h := si h; subst h
       exact pth Tryd.func32 [.r (.s (.b t1)), .br false, .br false, .r (.s (.b t2)), .br false, .br false, .br false, .r (.s (.b t3)), .br false, .r (.s (.b t5)), .br false, .r (.tu [.ag [.b bt7.1, .sl .u64 bt7.2.1], .s (.i .i64 bt7.2.2)]), .r (.tu [.ag [.b bt8.1, .sl .u64 bt8.2.1], .s (.i .i64 bt8.2.2)]), .br false, .br false, .br false, .br true] (fun e => ai (dyadic_Form.c A1) (ai (nt1 c2) (ai (nt1 c2) (ai (dyadic_Form.c A3) (ai (nt1 c2) (ai (nt1 c2) (ai (nt1 c4) (ai (dyadic_nought.c A5) (ai (z0 c6) (ai (dyadic_nought.c A8) (ai (z0 c9) (ai (num_Shl.c A11) (ai (num_Shl.c A12) (ai (n0 c13) (ai (n0 c13) (ai (n0 c13) (ai (n1 c14) e))))))))))))))))) (by kernel_rfl)
     ·have h := si h; subst h
      exact pth Tryd.func32 [.r (.s (.b t1)), .br false, .br false, .r (.s (.b t2)), .br false, .br false, .br false, .r (.s (.b t3)), .br false, .r (.s (.b t5)), .br false, .r (.tu [.ag [.b bt7.1, .sl .u64 bt7.2.1], .s (.i .i64 bt7.2.2)]), .r (.tu [.ag [.b bt8.1, .sl .u64 bt8.2.1], .s (.i .i64 bt8.2.2)]), .br true, .br true, .br true, .br true] (fun e => ai (dyadic_Form.c A1) (ai (nt1 c2) (ai (nt1 c2) (ai (dyadic_Form.c A3) (ai (nt1 c2) (ai (nt1 c2) (ai (nt1 c4) (ai (dyadic_nought.c A5) (ai (z0 c6) (ai (dyadic_nought.c A8) (ai (z0 c9) (ai (num_Shl.c A11) (ai (num_Shl.c A12) (ai (n1 c13) (ai (n1 c13) (ai (n1 c13) (ai tt e))))))))))))))))) (by kernel_rfl)
  ·have h := si h; subst h
   exact pth Tryd.func32 [.r (.s (.b t1)), .br false, .br false, .r (.s (.b t2)), .br false, .br false, .br true] (fun e => ai (dyadic_Form.c A1) (ai (nt1 c2) (ai (nt1 c2) (ai (dyadic_Form.c A3) (ai (nt1 c2) (ai (nt1 c2) (ai (nt0 (z0 c4)) e))))))) (by kernel_rfl)
 ·have h := si h; subst h
  exact pth Tryd.func32 [.r (.s (.b t1)), .br true, .br true, .br true, .br true, .br true] (fun e => ai (dyadic_Form.c A1) (ai (nt0 (z0 c2)) (ai (nt0 (z0 c2)) (ai (nt0 (z0 c2)) (ai (nt0 (z0 c2)) (ai tt e)))))) (by kernel_rfl)
def dyadic_Sub.f (k : Nat) (a0_0 : Bool) (l0_1 : List Int) (a0_2 : Int) (a1_0 : Bool) (l1_1 : List Int) (a1_2 : Int) : Option (Bool × List Int × Int × Int) := (dyadic_Neg.f k a1_0 l1_1 a1_2).bind fun bt1 => (if bt1.2.2.2 = 0 then ((dyadic_Add.f k a0_0 l0_1 a0_2 bt1.1 bt1.2.1 bt1.2.2.1).bind fun bt2 => (some (bt2.1, bt2.2.1, bt2.2.2.1, bt2.2.2.2))) else (some (false, ([] : List Int), 0, bt1.2.2.2)))
theorem dyadic_Sub.c {k : Nat} {a0_0 : Bool} {l0_1 : List Int} {a0_2 : Int} {a1_0 : Bool} {l1_1 : List Int} {a1_2 : Int} {r : Bool × List Int × Int × Int} (h : dyadic_Sub.f k a0_0 l0_1 a0_2 a1_0 l1_1 a1_2 = some r) : Con Tryd.prog Gw 27 [.ag [.b a0_0, .sl .u64 l0_1, .i .i64 a0_2], .ag [.b a1_0, .sl .u64 l1_1, .i .i64 a1_2]] (· = .tu [.ag [.b r.1, .sl .u64 r.2.1, .i .i64 r.2.2.1], .s (.i .i64 r.2.2.2)]) := by
 unfold dyadic_Sub.f at h
 obtain ⟨bt1, A1, h⟩ := bnd h
 rcases ite_e h with ⟨c2, h⟩ | ⟨c2, h⟩
 ·obtain ⟨bt2, A3, h⟩ := bnd h
  have h := si h; subst h
  exact pth Tryd.func27 [.r (.tu [.ag [.b bt1.1, .sl .u64 bt1.2.1, .i .i64 bt1.2.2.1], .s (.i .i64 bt1.2.2.2)]), .br false, .r (.tu [.ag [.b bt2.1, .sl .u64 bt2.2.1, .i .i64 bt2.2.2.1], .s (.i .i64 bt2.2.2.2)])] (fun e => ai (dyadic_Neg.c A1) (ai (n0 c2) (ai (dyadic_Add.c A3) e))) (by kernel_rfl)
 ·have h := si h; subst h
  exact pth Tryd.func27 [.r (.tu [.ag [.b bt1.1, .sl .u64 bt1.2.1, .i .i64 bt1.2.2.1], .s (.i .i64 bt1.2.2.2)]), .br true] (fun e => ai (dyadic_Neg.c A1) (ai (n1 c2) e)) (by kernel_rfl)
def binary_Value.f (k : Nat) (a0 : Int) (a1 : Int) : Option (Bool × List Int × Int × Int) := (binary_finite.f k a0 a1).bind fun bt1 => (if bt1.2.2.2.2.2.2 = 0 then ((binary_shape_parts.f bt1.1 bt1.2.1 bt1.2.2.1 bt1.2.2.2.1 bt1.2.2.2.2.2.1).bind fun bt2 => ((binary_number.f k bt1.2.2.2.2.1 bt2.1 bt2.2).bind fun bt3 => (some (bt3.1, bt3.2.1, bt3.2.2.1, bt3.2.2.2)))) else (some (false, ([] : List Int), 0, bt1.2.2.2.2.2.2)))
theorem binary_Value.c {k : Nat} {a0 : Int} {a1 : Int} {r : Bool × List Int × Int × Int} (h : binary_Value.f k a0 a1 = some r) : Con Tryd.prog Gw 26 [.s (.i .i64 a0), .s (.i .u64 a1)] (· = .tu [.ag [.b r.1, .sl .u64 r.2.1, .i .i64 r.2.2.1], .s (.i .i64 r.2.2.2)]) := by
 unfold binary_Value.f at h
 obtain ⟨bt1, A1, h⟩ := bnd h
 rcases ite_e h with ⟨c2, h⟩ | ⟨c2, h⟩
 ·obtain ⟨bt2, A3, h⟩ := bnd h
  obtain ⟨bt3, A4, h⟩ := bnd h
  have h := si h; subst h
  exact pth Tryd.func26 [.r (.tu [.ag [.i .i64 bt1.1, .i .i64 bt1.2.1, .i .i64 bt1.2.2.1, .i .u64 bt1.2.2.2.1], .s (.b bt1.2.2.2.2.1), .s (.i .u64 bt1.2.2.2.2.2.1), .s (.i .i64 bt1.2.2.2.2.2.2)]), .br false, .r (.tu [.s (.i .u64 bt2.1), .s (.i .i64 bt2.2)]), .r (.tu [.ag [.b bt3.1, .sl .u64 bt3.2.1, .i .i64 bt3.2.2.1], .s (.i .i64 bt3.2.2.2)])] (fun e => ai (binary_finite.c A1) (ai (n0 c2) (ai (binary_shape_parts.c A3) (ai (binary_number.c A4) e)))) (by kernel_rfl)
 ·have h := si h; subst h
  exact pth Tryd.func26 [.r (.tu [.ag [.i .i64 bt1.1, .i .i64 bt1.2.1, .i .i64 bt1.2.2.1, .i .u64 bt1.2.2.2.1], .s (.b bt1.2.2.2.2.1), .s (.i .u64 bt1.2.2.2.2.2.1), .s (.i .i64 bt1.2.2.2.2.2.2)]), .br true] (fun e => ai (binary_finite.c A1) (ai (n1 c2) e)) (by kernel_rfl)
end Go.Proofs.YtelfmddcjlocpaaDoor.PLib
