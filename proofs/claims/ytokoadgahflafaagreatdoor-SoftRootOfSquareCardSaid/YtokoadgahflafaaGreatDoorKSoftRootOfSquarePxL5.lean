/- Functions of the program as plain Lean functions (definitions as the print's), and that the machine's calls do what they do (contracts 'X.c', by Px). Condition: math/bits' table is laid. -/
import Derived.Test.YtokoadgahflafaaGreatDoorKSoftRootOfSquarePxBr
import Derived.Test.YtokoadgahflafaaGreatDoorKSoftRootOfSquareGM
import Derived.Test.YtokoadgahflafaaGreatDoorKSoftRootOfSquarePxMul
import Derived.Test.YtokoadgahflafaaGreatDoorKSoftRootOfSquarePxR0
import Derived.Test.YtokoadgahflafaaGreatDoorKSoftRootOfSquarePxOp
import Derived.Test.YtokoadgahflafaaGreatDoorKSoftRootOfSquarePxL0
import Derived.Test.YtokoadgahflafaaGreatDoorKSoftRootOfSquarePxL2
import Derived.Test.YtokoadgahflafaaGreatDoorKSoftRootOfSquarePxL3
import Derived.Test.YtokoadgahflafaaGreatDoorKSoftRootOfSquarePxL4
set_option linter.unusedVariables false
namespace Go.Proofs.YtokoadgahflafaaGreatDoor.PLib
open Go Go.RowKit Go.Proofs.YtokoadgahflafaaGreatDoorW.PrintWords Go.Proofs.YtokoadgahflafaaGreatDoorW.PrintMore Go.Proofs.YtokoadgahflafaaGreatDoor.Given Go.Proofs.YtokoadgahflafaaGreatDoor.Px
def gnomonlaw09_SoftRootOfSquare.f (k : Nat) (a0 : Bool) (a1 : Int) : Option (Bool) := (gnomonlaw09_awake.f k).bind fun t1 => (if t1 = true then ((gnomonlaw09_form.f a0).bind fun bt2 => ((gnomonlaw09_sizes.f bt2.2.1 bt2.2.2.1 bt2.2.2.2.1 bt2.2.2.2.2.1 bt2.2.2.2.2.2.1 bt2.2.2.2.2.2.2 a1).bind fun bt3 => (if bt3.2 = true then ((soft_Mul.f k bt2.1 bt3.1 bt3.1).bind fun bt4 => (if bt4.2 = 0 then (if bt4.1 ≥ bt2.2.2.2.2.2.1 then (some true) else ((gnomonref07_ClassOf.f bt2.2.1 bt2.2.2.1 bt2.2.2.2.1 bt2.2.2.2.2.1 bt2.2.2.2.2.2.1 bt2.2.2.2.2.2.2 bt4.1).bind fun t5 => (if t5 = 2 then ((soft_Sqrt.f k bt2.1 bt4.1).bind fun bt6 => (if bt6.2 = 0 then (if bt2.2.1 = 0 then (none) else (some (bt6.1 == (Int.tmod bt3.1 bt2.2.1)))) else (some false))) else (some true)))) else (some false))) else (some true)))) else (some false))
theorem gnomonlaw09_SoftRootOfSquare.c {k : Nat} {a0 : Bool} {a1 : Int} {r : Bool} (h : gnomonlaw09_SoftRootOfSquare.f k a0 a1 = some r) : Con Tryz.prog Gw 10 [.s (.b a0), .s (.i .u64 a1)] (· = .s (.b r)) := by
 unfold gnomonlaw09_SoftRootOfSquare.f at h
 obtain ⟨t1, A1, h⟩ := bnd h
 rcases ite_e h with ⟨c2, h⟩ | ⟨c2, h⟩
 ·obtain ⟨bt2, A3, h⟩ := bnd h
  obtain ⟨bt3, A4, h⟩ := bnd h
  rcases ite_e h with ⟨c5, h⟩ | ⟨c5, h⟩
  ·obtain ⟨bt4, A6, h⟩ := bnd h
   rcases ite_e h with ⟨c7, h⟩ | ⟨c7, h⟩
   ·rcases ite_e h with ⟨c8, h⟩ | ⟨c8, h⟩
    ·have h := si h; subst h
     exact pth Tryz.func10 [.r (.s (.b t1)), .br false, .r (.tu [.s (.i .i64 bt2.1), .ag [.i .u64 bt2.2.1, .i .i64 bt2.2.2.1, .i .i64 bt2.2.2.2.1, .i .i64 bt2.2.2.2.2.1, .i .u64 bt2.2.2.2.2.2.1, .i .u64 bt2.2.2.2.2.2.2]]), .r (.tu [.s (.i .u64 bt3.1), .s (.b bt3.2)]), .br false, .r (.tu [.s (.i .u64 bt4.1), .s (.i .i64 bt4.2)]), .br false, .br true, .br true, .br true, .br true, .br true, .br true] (fun e => ai (gnomonlaw09_awake.c A1) (ai (nt1 c2) (ai (gnomonlaw09_form.c A3) (ai (gnomonlaw09_sizes.c A4) (ai (nt1 c5) (ai (soft_Mul.c A6) (ai (n0 c7) (ai (d1 c8) (ai (d1 c8) (ai (d1 c8) (ai (d1 c8) (ai (d1 c8) (ai tt e))))))))))))) (by kernel_rfl)
    ·obtain ⟨t5, A9, h⟩ := bnd h
     rcases ite_e h with ⟨c10, h⟩ | ⟨c10, h⟩
     ·obtain ⟨bt6, A11, h⟩ := bnd h
      rcases ite_e h with ⟨c12, h⟩ | ⟨c12, h⟩
      ·rcases ite_e h with ⟨c13, h⟩ | ⟨c13, h⟩
       ·cases h
       ·have h := si h; subst h
        exact pth Tryz.func10 [.r (.s (.b t1)), .br false, .r (.tu [.s (.i .i64 bt2.1), .ag [.i .u64 bt2.2.1, .i .i64 bt2.2.2.1, .i .i64 bt2.2.2.2.1, .i .i64 bt2.2.2.2.2.1, .i .u64 bt2.2.2.2.2.2.1, .i .u64 bt2.2.2.2.2.2.2]]), .r (.tu [.s (.i .u64 bt3.1), .s (.b bt3.2)]), .br false, .r (.tu [.s (.i .u64 bt4.1), .s (.i .i64 bt4.2)]), .br false, .br false, .br false, .br false, .r (.s (.i .i64 t5)), .br false, .br false, .br false, .r (.tu [.s (.i .u64 bt6.1), .s (.i .i64 bt6.2)]), .br true, .br true, .br true, .br true, .br true, .br true, .br true] (fun e => ai (gnomonlaw09_awake.c A1) (ai (nt1 c2) (ai (gnomonlaw09_form.c A3) (ai (gnomonlaw09_sizes.c A4) (ai (nt1 c5) (ai (soft_Mul.c A6) (ai (n0 c7) (ai (d0 c8) (ai (d0 c8) (ai (d0 c8) (ai (gnomonref07_ClassOf.c A9) (ai (d0 c8) (ai (d0 c8) (ai (n0 c10) (ai (soft_Sqrt.c A11) (ai (q1 c12) (ai (q1 c12) (ai (q1 c12) (ai (q1 c12) (ai (q1 c12) (ai c13 (ai (q1 c12) (ai (q1 c12) e))))))))))))))))))))))) (by kernel_rfl)
      ·have h := si h; subst h
       exact pth Tryz.func10 [.r (.s (.b t1)), .br false, .r (.tu [.s (.i .i64 bt2.1), .ag [.i .u64 bt2.2.1, .i .i64 bt2.2.2.1, .i .i64 bt2.2.2.2.1, .i .i64 bt2.2.2.2.2.1, .i .u64 bt2.2.2.2.2.2.1, .i .u64 bt2.2.2.2.2.2.2]]), .r (.tu [.s (.i .u64 bt3.1), .s (.b bt3.2)]), .br false, .r (.tu [.s (.i .u64 bt4.1), .s (.i .i64 bt4.2)]), .br false, .br false, .br false, .br false, .r (.s (.i .i64 t5)), .br false, .br false, .br false, .r (.tu [.s (.i .u64 bt6.1), .s (.i .i64 bt6.2)]), .br false, .br false, .br false, .br false, .br false, .br false, .br false] (fun e => ai (gnomonlaw09_awake.c A1) (ai (nt1 c2) (ai (gnomonlaw09_form.c A3) (ai (gnomonlaw09_sizes.c A4) (ai (nt1 c5) (ai (soft_Mul.c A6) (ai (n0 c7) (ai (d0 c8) (ai (d0 c8) (ai (d0 c8) (ai (gnomonref07_ClassOf.c A9) (ai (d0 c8) (ai (d0 c8) (ai (n0 c10) (ai (soft_Sqrt.c A11) (ai (q0 c12) (ai (q0 c12) (ai (q0 c12) (ai (q0 c12) (ai (q0 c12) (ai (q0 c12) (ai (q0 c12) e)))))))))))))))))))))) (by kernel_rfl)
     ·have h := si h; subst h
      exact pth Tryz.func10 [.r (.s (.b t1)), .br false, .r (.tu [.s (.i .i64 bt2.1), .ag [.i .u64 bt2.2.1, .i .i64 bt2.2.2.1, .i .i64 bt2.2.2.2.1, .i .i64 bt2.2.2.2.2.1, .i .u64 bt2.2.2.2.2.2.1, .i .u64 bt2.2.2.2.2.2.2]]), .r (.tu [.s (.i .u64 bt3.1), .s (.b bt3.2)]), .br false, .r (.tu [.s (.i .u64 bt4.1), .s (.i .i64 bt4.2)]), .br false, .br false, .br false, .br false, .r (.s (.i .i64 t5)), .br false, .br false, .br true] (fun e => ai (gnomonlaw09_awake.c A1) (ai (nt1 c2) (ai (gnomonlaw09_form.c A3) (ai (gnomonlaw09_sizes.c A4) (ai (nt1 c5) (ai (soft_Mul.c A6) (ai (n0 c7) (ai (d0 c8) (ai (d0 c8) (ai (d0 c8) (ai (gnomonref07_ClassOf.c A9) (ai (d0 c8) (ai (d0 c8) (ai (n1 c10) e)))))))))))))) (by kernel_rfl)
   ·have h := si h; subst h
    exact pth Tryz.func10 [.r (.s (.b t1)), .br false, .r (.tu [.s (.i .i64 bt2.1), .ag [.i .u64 bt2.2.1, .i .i64 bt2.2.2.1, .i .i64 bt2.2.2.2.1, .i .i64 bt2.2.2.2.2.1, .i .u64 bt2.2.2.2.2.2.1, .i .u64 bt2.2.2.2.2.2.2]]), .r (.tu [.s (.i .u64 bt3.1), .s (.b bt3.2)]), .br false, .r (.tu [.s (.i .u64 bt4.1), .s (.i .i64 bt4.2)]), .br true] (fun e => ai (gnomonlaw09_awake.c A1) (ai (nt1 c2) (ai (gnomonlaw09_form.c A3) (ai (gnomonlaw09_sizes.c A4) (ai (nt1 c5) (ai (soft_Mul.c A6) (ai (n1 c7) e))))))) (by kernel_rfl)
  ·have h := si h; subst h
   exact pth Tryz.func10 [.r (.s (.b t1)), .br false, .r (.tu [.s (.i .i64 bt2.1), .ag [.i .u64 bt2.2.1, .i .i64 bt2.2.2.1, .i .i64 bt2.2.2.2.1, .i .i64 bt2.2.2.2.2.1, .i .u64 bt2.2.2.2.2.2.1, .i .u64 bt2.2.2.2.2.2.2]]), .r (.tu [.s (.i .u64 bt3.1), .s (.b bt3.2)]), .br true] (fun e => ai (gnomonlaw09_awake.c A1) (ai (nt1 c2) (ai (gnomonlaw09_form.c A3) (ai (gnomonlaw09_sizes.c A4) (ai (nt0 (z0 c5)) e))))) (by kernel_rfl)
 ·have h := si h; subst h
  exact pth Tryz.func10 [.r (.s (.b t1)), .br true] (fun e => ai (gnomonlaw09_awake.c A1) (ai (nt0 (z0 c2)) e)) (by kernel_rfl)
end Go.Proofs.YtokoadgahflafaaGreatDoor.PLib
