/- Functions of the program as plain Lean functions (definitions as the print's), and that the machine's calls do what they do (contracts 'X.c', by Px). Condition: math/bits' table is laid. -/
import Derived.Test.YtokoadgahflafaaGreatDoorKSoftThroughDoublePxBr
import Derived.Test.YtokoadgahflafaaGreatDoorKSoftThroughDoubleGM
import Derived.Test.YtokoadgahflafaaGreatDoorKSoftThroughDoublePxMul
import Derived.Test.YtokoadgahflafaaGreatDoorKSoftThroughDoublePxR0
import Derived.Test.YtokoadgahflafaaGreatDoorKSoftThroughDoublePxOp
import Derived.Test.YtokoadgahflafaaGreatDoorKSoftThroughDoublePxL0
import Derived.Test.YtokoadgahflafaaGreatDoorKSoftThroughDoublePxL1
set_option linter.unusedVariables false
namespace Go.Proofs.YtokoadgahflafaaGreatDoor.PLib
open Go Go.RowKit Go.Proofs.YtokoadgahflafaaGreatDoorW.PrintWords Go.Proofs.YtokoadgahflafaaGreatDoorW.PrintMore Go.Proofs.YtokoadgahflafaaGreatDoor.Given Go.Proofs.YtokoadgahflafaaGreatDoor.Px
def binary_Quiet.f (a0 : Int) : Option (Int × Int) := (binary_shapeOf.f a0).bind fun bt1 => (if (bt1.1 == 0 && (bt1.2.1 == 0 && (bt1.2.2.1 == 0 && (bt1.2.2.2 == 0)))) = true then (some (0, 1)) else (some (bt1.2.2.2, 0)))
theorem binary_Quiet.c {a0 : Int} {r : Int × Int} (h : binary_Quiet.f a0 = some r) : Con Tryz.prog Gw 64 [.s (.i .i64 a0)] (· = .tu [.s (.i .u64 r.1), .s (.i .i64 r.2)]) := by
 unfold binary_Quiet.f at h
 obtain ⟨bt1, A1, h⟩ := bnd h
 rcases ite_e h with ⟨c2, h⟩ | ⟨c2, h⟩
 ·have h := si h; subst h
  exact pth Tryz.func64 [.r (.ag [.i .i64 bt1.1, .i .i64 bt1.2.1, .i .i64 bt1.2.2.1, .i .u64 bt1.2.2.2]), .br true] (fun e => ai (binary_shapeOf.c A1) (ai c2 e)) (by kernel_rfl)
 ·have h := si h; subst h
  exact pth Tryz.func64 [.r (.ag [.i .i64 bt1.1, .i .i64 bt1.2.1, .i .i64 bt1.2.2.1, .i .u64 bt1.2.2.2]), .br false] (fun e => ai (binary_shapeOf.c A1) (ai (z0 c2) e)) (by kernel_rfl)
def soft_tell.f (k : Nat) (a0 : Int) (a1 : Opd) : Option (Int × Int) := opm a1 ((binary_Quiet.f a0).bind fun bt6 => (some (bt6.1, bt6.2))) (fun ob1 => (if a0 = 64 then ((soft_signed.f a0 ob1 9218868437227405312).bind fun t7 => (some (t7, 0))) else ((soft_signed.f a0 ob1 2139095040).bind fun t8 => (some (t8, 0))))) (fun ob2 => ((soft_signed.f a0 ob2 0).bind fun t9 => (some (t9, 0)))) (fun ob3 ol4 ox5 => ((round_Nearest.f k a0 ob3 ol4 ox5).bind fun bt10 => (some (bt10.1, bt10.2))))
theorem soft_tell.mono : ∀ a0 a1 k, LeO (soft_tell.f k a0 a1) (soft_tell.f (k + 1) a0 a1) := by
 intro a0 a1 k
 unfold soft_tell.f
 repeat' first
  | (with_reducible exact round_Nearest.mono _ _ _ _ _)
  | (with_reducible exact LeO.refl _)
  | (with_reducible exact LeO.none _)
  | (with_reducible refine LeO.ite ?_ ?_)
  | (with_reducible refine LeO.bind ?_ (fun _ => ?_))
  | (with_reducible refine LeO.opm ?_ (fun _ => ?_) (fun _ => ?_) (fun _ _ _ => ?_))
theorem soft_tell.c {k : Nat} {a0 : Int} {a1 : Opd} {r : Int × Int} (h : soft_tell.f k a0 a1 = some r) : Con Tryz.prog Gw 56 [.s (.i .i64 a0), .s (.ifc (opT a1) (opL a1))] (· = .tu [.s (.i .u64 r.1), .s (.i .i64 r.2)]) := by
 unfold soft_tell.f at h
 rcases opm_e h with ⟨e1, h⟩ | ⟨ob1, e2, h⟩ | ⟨ob2, e3, h⟩ | ⟨ob3, ol4, ox5, e4, h⟩
 ·obtain ⟨bt6, A5, h⟩ := bnd h
  have h := si h; subst h
  exact pth Tryz.func56 [.cs (.ifc 144 []), .br false, .cs (.ifc 144 []), .br false, .cs (.ifc 144 []), .br false, .r (.tu [.s (.i .u64 bt6.1), .s (.i .i64 bt6.2)])] (fun e => ai (op_e e1) (ai ff (ai (op_e e1) (ai ff (ai (op_e e1) (ai ff (ai (binary_Quiet.c A5) e))))))) (by kernel_rfl)
 ·rcases ite_e h with ⟨c6, h⟩ | ⟨c6, h⟩
  ·obtain ⟨t7, A7, h⟩ := bnd h
   have h := si h; subst h
   exact pth Tryz.func56 [.cs (.ifc 95 [.b ob1]), .br true, .br true, .r (.s (.i .u64 t7))] (fun e => ai (op_e e2) (ai tt (ai (q1 c6) (ai (soft_signed.c A7) e)))) (by kernel_rfl)
  ·obtain ⟨t8, A8, h⟩ := bnd h
   have h := si h; subst h
   exact pth Tryz.func56 [.cs (.ifc 95 [.b ob1]), .br true, .br false, .r (.s (.i .u64 t8))] (fun e => ai (op_e e2) (ai tt (ai (q0 c6) (ai (soft_signed.c A8) e)))) (by kernel_rfl)
 ·obtain ⟨t9, A9, h⟩ := bnd h
  have h := si h; subst h
  exact pth Tryz.func56 [.cs (.ifc 94 [.b ob2]), .br false, .cs (.ifc 94 [.b ob2]), .br true, .r (.s (.i .u64 t9))] (fun e => ai (op_e e3) (ai ff (ai (op_e e3) (ai tt (ai (soft_signed.c A9) e))))) (by kernel_rfl)
 ·obtain ⟨bt10, A10, h⟩ := bnd h
  have h := si h; subst h
  exact pth Tryz.func56 [.cs (.ifc 88 [.b ob3, .sl .u64 ol4, .i .i64 ox5]), .br false, .cs (.ifc 88 [.b ob3, .sl .u64 ol4, .i .i64 ox5]), .br false, .cs (.ifc 88 [.b ob3, .sl .u64 ol4, .i .i64 ox5]), .br true, .r (.tu [.s (.i .u64 bt10.1), .s (.i .i64 bt10.2)])] (fun e => ai (op_e e4) (ai ff (ai (op_e e4) (ai ff (ai (op_e e4) (ai tt (ai (round_Nearest.c A10) e))))))) (by kernel_rfl)
def soft_plus.f (k : Nat) (a0 : Opd) (a1 : Opd) : Option (Opd) := opm a0 (some Opd.nan) (fun ob1 => (opm a1 (some Opd.nan) (fun ob6 => (if ob1 = ob6 then (some (Opd.inf ob1)) else (some Opd.nan))) (fun ob7 => (some (Opd.inf ob1))) (fun ob8 ol9 ox10 => (some (Opd.inf ob1))))) (fun ob2 => (opm a1 (some a1) (fun ob11 => (some a1)) (fun ob12 => (if ob2 = true then (some (Opd.nou ob12)) else (some (Opd.nou false)))) (fun ob13 ol14 ox15 => (some a1)))) (fun ob3 ol4 ox5 => (opm a1 (some a1) (fun ob16 => (some a1)) (fun ob17 => (some a0)) (fun ob18 ol19 ox20 => ((dyadic_Add.f k ob3 ol4 ox5 ob18 ol19 ox20).bind fun bt21 => (if (bt21.2.1.length : Int) = 0 then (some (Opd.nou false)) else (some (Opd.num bt21.1 bt21.2.1 bt21.2.2.1)))))))
theorem soft_plus.mono : ∀ a0 a1 k, LeO (soft_plus.f k a0 a1) (soft_plus.f (k + 1) a0 a1) := by
 intro a0 a1 k
 unfold soft_plus.f
 repeat' first
  | (with_reducible exact dyadic_Add.mono _ _ _ _ _ _ _)
  | (with_reducible exact LeO.refl _)
  | (with_reducible exact LeO.none _)
  | (with_reducible refine LeO.ite ?_ ?_)
  | (with_reducible refine LeO.bind ?_ (fun _ => ?_))
  | (with_reducible refine LeO.opm ?_ (fun _ => ?_) (fun _ => ?_) (fun _ _ _ => ?_))
theorem soft_plus.c {k : Nat} {a0 : Opd} {a1 : Opd} {r : Opd} (h : soft_plus.f k a0 a1 = some r) : Con Tryz.prog Gw 57 [.s (.ifc (opT a0) (opL a0)), .s (.ifc (opT a1) (opL a1))] (· = .s (.ifc (opT r) (opL r))) := by
 unfold soft_plus.f at h
 rcases opm_e h with ⟨e1, h⟩ | ⟨ob1, e2, h⟩ | ⟨ob2, e3, h⟩ | ⟨ob3, ol4, ox5, e4, h⟩
 ·have h := si h; subst h
  exact pth Tryz.func57 [.cs (.ifc 144 []), .br true] (fun e => ai (op_e e1) (ai tt e)) (by kernel_rfl)
 ·rcases opm_e h with ⟨e5, h⟩ | ⟨ob6, e6, h⟩ | ⟨ob7, e7, h⟩ | ⟨ob8, ol9, ox10, e8, h⟩
  ·have h := si h; subst h
   exact pth Tryz.func57 [.cs (.ifc 95 [.b ob1]), .br false, .cs (.ifc 95 [.b ob1]), .br true, .cs (.ifc 144 []), .br true] (fun e => ai (op_e e2) (ai ff (ai (op_e e2) (ai tt (ai (op_e e5) (ai tt e)))))) (by kernel_rfl)
  ·rcases ite_e h with ⟨c9, h⟩ | ⟨c9, h⟩
   ·have h := si h; subst h
    exact pth Tryz.func57 [.cs (.ifc 95 [.b ob1]), .br false, .cs (.ifc 95 [.b ob1]), .br true, .cs (.ifc 95 [.b ob6]), .br false, .cs (.ifc 95 [.b ob6]), .br true, .br false] (fun e => ai (op_e e2) (ai ff (ai (op_e e2) (ai tt (ai (op_e e6) (ai ff (ai (op_e e6) (ai tt (ai (n0 c9) e))))))))) (by kernel_rfl)
   ·have h := si h; subst h
    exact pth Tryz.func57 [.cs (.ifc 95 [.b ob1]), .br false, .cs (.ifc 95 [.b ob1]), .br true, .cs (.ifc 95 [.b ob6]), .br false, .cs (.ifc 95 [.b ob6]), .br true, .br true] (fun e => ai (op_e e2) (ai ff (ai (op_e e2) (ai tt (ai (op_e e6) (ai ff (ai (op_e e6) (ai tt (ai (n1 c9) e))))))))) (by kernel_rfl)
  ·have h := si h; subst h
   exact pth Tryz.func57 [.cs (.ifc 95 [.b ob1]), .br false, .cs (.ifc 95 [.b ob1]), .br true, .cs (.ifc 94 [.b ob7]), .br false, .cs (.ifc 94 [.b ob7]), .br false] (fun e => ai (op_e e2) (ai ff (ai (op_e e2) (ai tt (ai (op_e e7) (ai ff (ai (op_e e7) (ai ff e)))))))) (by kernel_rfl)
  ·have h := si h; subst h
   exact pth Tryz.func57 [.cs (.ifc 95 [.b ob1]), .br false, .cs (.ifc 95 [.b ob1]), .br true, .cs (.ifc 88 [.b ob8, .sl .u64 ol9, .i .i64 ox10]), .br false, .cs (.ifc 88 [.b ob8, .sl .u64 ol9, .i .i64 ox10]), .br false] (fun e => ai (op_e e2) (ai ff (ai (op_e e2) (ai tt (ai (op_e e8) (ai ff (ai (op_e e8) (ai ff e)))))))) (by kernel_rfl)
 ·rcases opm_e h with ⟨e10, h⟩ | ⟨ob11, e11, h⟩ | ⟨ob12, e12, h⟩ | ⟨ob13, ol14, ox15, e13, h⟩
  ·have h := si h; subst h
   exact pth Tryz.func57 [.cs (.ifc 94 [.b ob2]), .br false, .cs (.ifc 94 [.b ob2]), .br false, .cs (.ifc 94 [.b ob2]), .br true, .cs (.ifc 144 []), .br false] (fun e => ai (op_e e3) (ai ff (ai (op_e e3) (ai ff (ai (op_e e3) (ai tt (ai (op_e e10) (ai ff e)))))))) (by kernel_rfl)
  ·have h := si h; subst h
   exact pth Tryz.func57 [.cs (.ifc 94 [.b ob2]), .br false, .cs (.ifc 94 [.b ob2]), .br false, .cs (.ifc 94 [.b ob2]), .br true, .cs (.ifc 95 [.b ob11]), .br false] (fun e => ai (op_e e3) (ai ff (ai (op_e e3) (ai ff (ai (op_e e3) (ai tt (ai (op_e e11) (ai ff e)))))))) (by kernel_rfl)
  ·rcases ite_e h with ⟨c14, h⟩ | ⟨c14, h⟩
   ·have h := si h; subst h
    exact pth Tryz.func57 [.cs (.ifc 94 [.b ob2]), .br false, .cs (.ifc 94 [.b ob2]), .br false, .cs (.ifc 94 [.b ob2]), .br true, .cs (.ifc 94 [.b ob12]), .br true, .br true, .br true, .br true] (fun e => ai (op_e e3) (ai ff (ai (op_e e3) (ai ff (ai (op_e e3) (ai tt (ai (op_e e12) (ai tt (ai c14 (ai c14 (ai c14 e))))))))))) (by kernel_rfl)
   ·have h := si h; subst h
    exact pth Tryz.func57 [.cs (.ifc 94 [.b ob2]), .br false, .cs (.ifc 94 [.b ob2]), .br false, .cs (.ifc 94 [.b ob2]), .br true, .cs (.ifc 94 [.b ob12]), .br true, .br false, .br false, .br false] (fun e => ai (op_e e3) (ai ff (ai (op_e e3) (ai ff (ai (op_e e3) (ai tt (ai (op_e e12) (ai tt (ai (z0 c14) (ai (z0 c14) (ai (z0 c14) e))))))))))) (by kernel_rfl)
  ·have h := si h; subst h
   exact pth Tryz.func57 [.cs (.ifc 94 [.b ob2]), .br false, .cs (.ifc 94 [.b ob2]), .br false, .cs (.ifc 94 [.b ob2]), .br true, .cs (.ifc 88 [.b ob13, .sl .u64 ol14, .i .i64 ox15]), .br false] (fun e => ai (op_e e3) (ai ff (ai (op_e e3) (ai ff (ai (op_e e3) (ai tt (ai (op_e e13) (ai ff e)))))))) (by kernel_rfl)
 ·rcases opm_e h with ⟨e15, h⟩ | ⟨ob16, e16, h⟩ | ⟨ob17, e17, h⟩ | ⟨ob18, ol19, ox20, e18, h⟩
  ·have h := si h; subst h
   exact pth Tryz.func57 [.cs (.ifc 88 [.b ob3, .sl .u64 ol4, .i .i64 ox5]), .br false, .cs (.ifc 88 [.b ob3, .sl .u64 ol4, .i .i64 ox5]), .br false, .cs (.ifc 88 [.b ob3, .sl .u64 ol4, .i .i64 ox5]), .br false, .cs (.ifc 88 [.b ob3, .sl .u64 ol4, .i .i64 ox5]), .br true, .cs (.ifc 144 []), .br false, .cs (.ifc 144 []), .br false] (fun e => ai (op_e e4) (ai ff (ai (op_e e4) (ai ff (ai (op_e e4) (ai ff (ai (op_e e4) (ai tt (ai (op_e e15) (ai ff (ai (op_e e15) (ai ff e)))))))))))) (by kernel_rfl)
  ·have h := si h; subst h
   exact pth Tryz.func57 [.cs (.ifc 88 [.b ob3, .sl .u64 ol4, .i .i64 ox5]), .br false, .cs (.ifc 88 [.b ob3, .sl .u64 ol4, .i .i64 ox5]), .br false, .cs (.ifc 88 [.b ob3, .sl .u64 ol4, .i .i64 ox5]), .br false, .cs (.ifc 88 [.b ob3, .sl .u64 ol4, .i .i64 ox5]), .br true, .cs (.ifc 95 [.b ob16]), .br false, .cs (.ifc 95 [.b ob16]), .br false] (fun e => ai (op_e e4) (ai ff (ai (op_e e4) (ai ff (ai (op_e e4) (ai ff (ai (op_e e4) (ai tt (ai (op_e e16) (ai ff (ai (op_e e16) (ai ff e)))))))))))) (by kernel_rfl)
  ·have h := si h; subst h
   exact pth Tryz.func57 [.cs (.ifc 88 [.b ob3, .sl .u64 ol4, .i .i64 ox5]), .br false, .cs (.ifc 88 [.b ob3, .sl .u64 ol4, .i .i64 ox5]), .br false, .cs (.ifc 88 [.b ob3, .sl .u64 ol4, .i .i64 ox5]), .br false, .cs (.ifc 88 [.b ob3, .sl .u64 ol4, .i .i64 ox5]), .br true, .cs (.ifc 94 [.b ob17]), .br false, .cs (.ifc 94 [.b ob17]), .br true] (fun e => ai (op_e e4) (ai ff (ai (op_e e4) (ai ff (ai (op_e e4) (ai ff (ai (op_e e4) (ai tt (ai (op_e e17) (ai ff (ai (op_e e17) (ai tt e)))))))))))) (by kernel_rfl)
  ·obtain ⟨bt21, A19, h⟩ := bnd h
   rcases ite_e h with ⟨c20, h⟩ | ⟨c20, h⟩
   ·have h := si h; subst h
    exact pth Tryz.func57 [.cs (.ifc 88 [.b ob3, .sl .u64 ol4, .i .i64 ox5]), .br false, .cs (.ifc 88 [.b ob3, .sl .u64 ol4, .i .i64 ox5]), .br false, .cs (.ifc 88 [.b ob3, .sl .u64 ol4, .i .i64 ox5]), .br false, .cs (.ifc 88 [.b ob3, .sl .u64 ol4, .i .i64 ox5]), .br true, .cs (.ifc 88 [.b ob18, .sl .u64 ol19, .i .i64 ox20]), .br true, .r (.tu [.ag [.b bt21.1, .sl .u64 bt21.2.1, .i .i64 bt21.2.2.1], .s (.i .i64 bt21.2.2.2)]), .br true] (fun e => ai (op_e e4) (ai ff (ai (op_e e4) (ai ff (ai (op_e e4) (ai ff (ai (op_e e4) (ai tt (ai (op_e e18) (ai tt (ai (dyadic_Add.c A19) (ai (q1 c20) e)))))))))))) (by kernel_rfl)
   ·have h := si h; subst h
    exact pth Tryz.func57 [.cs (.ifc 88 [.b ob3, .sl .u64 ol4, .i .i64 ox5]), .br false, .cs (.ifc 88 [.b ob3, .sl .u64 ol4, .i .i64 ox5]), .br false, .cs (.ifc 88 [.b ob3, .sl .u64 ol4, .i .i64 ox5]), .br false, .cs (.ifc 88 [.b ob3, .sl .u64 ol4, .i .i64 ox5]), .br true, .cs (.ifc 88 [.b ob18, .sl .u64 ol19, .i .i64 ox20]), .br true, .r (.tu [.ag [.b bt21.1, .sl .u64 bt21.2.1, .i .i64 bt21.2.2.1], .s (.i .i64 bt21.2.2.2)]), .br false] (fun e => ai (op_e e4) (ai ff (ai (op_e e4) (ai ff (ai (op_e e4) (ai ff (ai (op_e e4) (ai tt (ai (op_e e18) (ai tt (ai (dyadic_Add.c A19) (ai (q0 c20) e)))))))))))) (by kernel_rfl)
def soft_Add.f (k : Nat) (a0 : Int) (a1 : Int) (a2 : Int) : Option (Int × Int) := (soft_pair.f k a0 a1 a2).bind fun bt1 => (if bt1.2.2 = 0 then ((soft_plus.f k bt1.1 bt1.2.1).bind fun t2 => ((soft_tell.f k a0 t2).bind fun bt3 => (some (bt3.1, bt3.2)))) else (some (0, bt1.2.2)))
theorem soft_Add.mono : ∀ a0 a1 a2 k, LeO (soft_Add.f k a0 a1 a2) (soft_Add.f (k + 1) a0 a1 a2) := by
 intro a0 a1 a2 k
 unfold soft_Add.f
 repeat' first
  | (with_reducible exact soft_pair.mono _ _ _ _)
  | (with_reducible exact soft_plus.mono _ _ _)
  | (with_reducible exact soft_tell.mono _ _ _)
  | (with_reducible exact LeO.refl _)
  | (with_reducible exact LeO.none _)
  | (with_reducible refine LeO.ite ?_ ?_)
  | (with_reducible refine LeO.bind ?_ (fun _ => ?_))
theorem soft_Add.c {k : Nat} {a0 : Int} {a1 : Int} {a2 : Int} {r : Int × Int} (h : soft_Add.f k a0 a1 a2 = some r) : Con Tryz.prog Gw 16 [.s (.i .i64 a0), .s (.i .u64 a1), .s (.i .u64 a2)] (· = .tu [.s (.i .u64 r.1), .s (.i .i64 r.2)]) := by
 unfold soft_Add.f at h
 obtain ⟨bt1, A1, h⟩ := bnd h
 rcases ite_e h with ⟨c2, h⟩ | ⟨c2, h⟩
 ·obtain ⟨t2, A3, h⟩ := bnd h
  obtain ⟨bt3, A4, h⟩ := bnd h
  have h := si h; subst h
  exact pth Tryz.func16 [.r (.tu [.s (.ifc (opT bt1.1) (opL bt1.1)), .s (.ifc (opT bt1.2.1) (opL bt1.2.1)), .s (.i .i64 bt1.2.2)]), .br false, .r (.s (.ifc (opT t2) (opL t2))), .r (.tu [.s (.i .u64 bt3.1), .s (.i .i64 bt3.2)])] (fun e => ai (soft_pair.c A1) (ai (n0 c2) (ai (soft_plus.c A3) (ai (soft_tell.c A4) e)))) (by kernel_rfl)
 ·have h := si h; subst h
  exact pth Tryz.func16 [.r (.tu [.s (.ifc (opT bt1.1) (opL bt1.1)), .s (.ifc (opT bt1.2.1) (opL bt1.2.1)), .s (.i .i64 bt1.2.2)]), .br true] (fun e => ai (soft_pair.c A1) (ai (n1 c2) e)) (by kernel_rfl)
def soft_Sub.f (k : Nat) (a0 : Int) (a1 : Int) (a2 : Int) : Option (Int × Int) := (soft_pair.f k a0 a1 a2).bind fun bt1 => (if bt1.2.2 = 0 then (opm bt1.2.1 ((soft_nan_turned.f).bind fun t7 => ((soft_plus.f k bt1.1 t7).bind fun t8 => ((soft_tell.f k a0 t8).bind fun bt9 => (some (bt9.1, bt9.2))))) (fun ob2 => ((soft_infinite_turned.f ob2).bind fun t10 => ((soft_plus.f k bt1.1 t10).bind fun t11 => ((soft_tell.f k a0 t11).bind fun bt12 => (some (bt12.1, bt12.2)))))) (fun ob3 => ((soft_nought_turned.f ob3).bind fun t13 => ((soft_plus.f k bt1.1 t13).bind fun t14 => ((soft_tell.f k a0 t14).bind fun bt15 => (some (bt15.1, bt15.2)))))) (fun ob4 ol5 ox6 => ((soft_number_turned.f k ob4 ol5 ox6).bind fun t16 => ((soft_plus.f k bt1.1 t16).bind fun t17 => ((soft_tell.f k a0 t17).bind fun bt18 => (some (bt18.1, bt18.2))))))) else (some (0, bt1.2.2)))
theorem soft_Sub.mono : ∀ a0 a1 a2 k, LeO (soft_Sub.f k a0 a1 a2) (soft_Sub.f (k + 1) a0 a1 a2) := by
 intro a0 a1 a2 k
 unfold soft_Sub.f
 repeat' first
  | (with_reducible exact soft_number_turned.mono _ _ _ _)
  | (with_reducible exact soft_pair.mono _ _ _ _)
  | (with_reducible exact soft_plus.mono _ _ _)
  | (with_reducible exact soft_tell.mono _ _ _)
  | (with_reducible exact LeO.refl _)
  | (with_reducible exact LeO.none _)
  | (with_reducible refine LeO.ite ?_ ?_)
  | (with_reducible refine LeO.bind ?_ (fun _ => ?_))
  | (with_reducible refine LeO.opm ?_ (fun _ => ?_) (fun _ => ?_) (fun _ _ _ => ?_))
theorem soft_Sub.c {k : Nat} {a0 : Int} {a1 : Int} {a2 : Int} {r : Int × Int} (h : soft_Sub.f k a0 a1 a2 = some r) : Con Tryz.prog Gw 17 [.s (.i .i64 a0), .s (.i .u64 a1), .s (.i .u64 a2)] (· = .tu [.s (.i .u64 r.1), .s (.i .i64 r.2)]) := by
 unfold soft_Sub.f at h
 obtain ⟨bt1, A1, h⟩ := bnd h
 rcases ite_e h with ⟨c2, h⟩ | ⟨c2, h⟩
 ·rcases opm_e h with ⟨e3, h⟩ | ⟨ob2, e4, h⟩ | ⟨ob3, e5, h⟩ | ⟨ob4, ol5, ox6, e6, h⟩
  ·obtain ⟨t7, A7, h⟩ := bnd h
   obtain ⟨t8, A8, h⟩ := bnd h
   obtain ⟨bt9, A9, h⟩ := bnd h
   have h := si h; subst h
   exact pth Tryz.func17 [.r (.tu [.s (.ifc (opT bt1.1) (opL bt1.1)), .s (.ifc (opT bt1.2.1) (opL bt1.2.1)), .s (.i .i64 bt1.2.2)]), .br false, .cs (.ifc 144 []), .r (.s (.ifc (opT t7) (opL t7))), .r (.s (.ifc (opT t8) (opL t8))), .r (.tu [.s (.i .u64 bt9.1), .s (.i .i64 bt9.2)])] (fun e => ai (soft_pair.c A1) (ai (n0 c2) (ai (op_e e3) (ai (soft_nan_turned.c A7) (ai (soft_plus.c A8) (ai (soft_tell.c A9) e)))))) (by kernel_rfl)
  ·obtain ⟨t10, A10, h⟩ := bnd h
   obtain ⟨t11, A11, h⟩ := bnd h
   obtain ⟨bt12, A12, h⟩ := bnd h
   have h := si h; subst h
   exact pth Tryz.func17 [.r (.tu [.s (.ifc (opT bt1.1) (opL bt1.1)), .s (.ifc (opT bt1.2.1) (opL bt1.2.1)), .s (.i .i64 bt1.2.2)]), .br false, .cs (.ifc 95 [.b ob2]), .r (.s (.ifc (opT t10) (opL t10))), .r (.s (.ifc (opT t11) (opL t11))), .r (.tu [.s (.i .u64 bt12.1), .s (.i .i64 bt12.2)])] (fun e => ai (soft_pair.c A1) (ai (n0 c2) (ai (op_e e4) (ai (soft_infinite_turned.c A10) (ai (soft_plus.c A11) (ai (soft_tell.c A12) e)))))) (by kernel_rfl)
  ·obtain ⟨t13, A13, h⟩ := bnd h
   obtain ⟨t14, A14, h⟩ := bnd h
   obtain ⟨bt15, A15, h⟩ := bnd h
   have h := si h; subst h
   exact pth Tryz.func17 [.r (.tu [.s (.ifc (opT bt1.1) (opL bt1.1)), .s (.ifc (opT bt1.2.1) (opL bt1.2.1)), .s (.i .i64 bt1.2.2)]), .br false, .cs (.ifc 94 [.b ob3]), .r (.s (.ifc (opT t13) (opL t13))), .r (.s (.ifc (opT t14) (opL t14))), .r (.tu [.s (.i .u64 bt15.1), .s (.i .i64 bt15.2)])] (fun e => ai (soft_pair.c A1) (ai (n0 c2) (ai (op_e e5) (ai (soft_nought_turned.c A13) (ai (soft_plus.c A14) (ai (soft_tell.c A15) e)))))) (by kernel_rfl)
  ·obtain ⟨t16, A16, h⟩ := bnd h
   obtain ⟨t17, A17, h⟩ := bnd h
   obtain ⟨bt18, A18, h⟩ := bnd h
   have h := si h; subst h
   exact pth Tryz.func17 [.r (.tu [.s (.ifc (opT bt1.1) (opL bt1.1)), .s (.ifc (opT bt1.2.1) (opL bt1.2.1)), .s (.i .i64 bt1.2.2)]), .br false, .cs (.ifc 88 [.b ob4, .sl .u64 ol5, .i .i64 ox6]), .r (.s (.ifc (opT t16) (opL t16))), .r (.s (.ifc (opT t17) (opL t17))), .r (.tu [.s (.i .u64 bt18.1), .s (.i .i64 bt18.2)])] (fun e => ai (soft_pair.c A1) (ai (n0 c2) (ai (op_e e6) (ai (soft_number_turned.c A16) (ai (soft_plus.c A17) (ai (soft_tell.c A18) e)))))) (by kernel_rfl)
 ·have h := si h; subst h
  exact pth Tryz.func17 [.r (.tu [.s (.ifc (opT bt1.1) (opL bt1.1)), .s (.ifc (opT bt1.2.1) (opL bt1.2.1)), .s (.i .i64 bt1.2.2)]), .br true] (fun e => ai (soft_pair.c A1) (ai (n1 c2) e)) (by kernel_rfl)
def soft_none.f (a0 : Opd) : Option (Bool) := opm a0 (some true) (fun ob1 => (some false)) (fun ob2 => (some false)) (fun ob3 ol4 ox5 => (some false))
theorem soft_none.c {a0 : Opd} {r : Bool} (h : soft_none.f a0 = some r) : Con Tryz.prog Gw 65 [.s (.ifc (opT a0) (opL a0))] (· = .s (.b r)) := by
 unfold soft_none.f at h
 rcases opm_e h with ⟨e1, h⟩ | ⟨ob1, e2, h⟩ | ⟨ob2, e3, h⟩ | ⟨ob3, ol4, ox5, e4, h⟩
 ·have h := si h; subst h
  exact pth Tryz.func65 [.cs (.ifc 144 [])] (fun e => ai (op_e e1) e) (by kernel_rfl)
 ·have h := si h; subst h
  exact pth Tryz.func65 [.cs (.ifc 95 [.b ob1])] (fun e => ai (op_e e2) e) (by kernel_rfl)
 ·have h := si h; subst h
  exact pth Tryz.func65 [.cs (.ifc 94 [.b ob2])] (fun e => ai (op_e e3) e) (by kernel_rfl)
 ·have h := si h; subst h
  exact pth Tryz.func65 [.cs (.ifc 88 [.b ob3, .sl .u64 ol4, .i .i64 ox5])] (fun e => ai (op_e e4) e) (by kernel_rfl)
def soft_Neg.f (k : Nat) (a0 : Int) (a1 : Int) : Option (Int × Int) := (soft_read.f k a0 a1).bind fun bt1 => (if bt1.2 = 0 then (opm bt1.1 ((soft_nan_turned.f).bind fun t7 => ((soft_tell.f k a0 t7).bind fun bt8 => (some (bt8.1, bt8.2)))) (fun ob2 => ((soft_infinite_turned.f ob2).bind fun t9 => ((soft_tell.f k a0 t9).bind fun bt10 => (some (bt10.1, bt10.2))))) (fun ob3 => ((soft_nought_turned.f ob3).bind fun t11 => ((soft_tell.f k a0 t11).bind fun bt12 => (some (bt12.1, bt12.2))))) (fun ob4 ol5 ox6 => ((soft_number_turned.f k ob4 ol5 ox6).bind fun t13 => ((soft_tell.f k a0 t13).bind fun bt14 => (some (bt14.1, bt14.2)))))) else (some (0, bt1.2)))
theorem soft_Neg.mono : ∀ a0 a1 k, LeO (soft_Neg.f k a0 a1) (soft_Neg.f (k + 1) a0 a1) := by
 intro a0 a1 k
 unfold soft_Neg.f
 repeat' first
  | (with_reducible exact soft_number_turned.mono _ _ _ _)
  | (with_reducible exact soft_read.mono _ _ _)
  | (with_reducible exact soft_tell.mono _ _ _)
  | (with_reducible exact LeO.refl _)
  | (with_reducible exact LeO.none _)
  | (with_reducible refine LeO.ite ?_ ?_)
  | (with_reducible refine LeO.bind ?_ (fun _ => ?_))
  | (with_reducible refine LeO.opm ?_ (fun _ => ?_) (fun _ => ?_) (fun _ _ _ => ?_))
theorem soft_Neg.c {k : Nat} {a0 : Int} {a1 : Int} {r : Int × Int} (h : soft_Neg.f k a0 a1 = some r) : Con Tryz.prog Gw 21 [.s (.i .i64 a0), .s (.i .u64 a1)] (· = .tu [.s (.i .u64 r.1), .s (.i .i64 r.2)]) := by
 unfold soft_Neg.f at h
 obtain ⟨bt1, A1, h⟩ := bnd h
 rcases ite_e h with ⟨c2, h⟩ | ⟨c2, h⟩
 ·rcases opm_e h with ⟨e3, h⟩ | ⟨ob2, e4, h⟩ | ⟨ob3, e5, h⟩ | ⟨ob4, ol5, ox6, e6, h⟩
  ·obtain ⟨t7, A7, h⟩ := bnd h
   obtain ⟨bt8, A8, h⟩ := bnd h
   have h := si h; subst h
   exact pth Tryz.func21 [.r (.tu [.s (.ifc (opT bt1.1) (opL bt1.1)), .s (.i .i64 bt1.2)]), .br false, .cs (.ifc 144 []), .r (.s (.ifc (opT t7) (opL t7))), .r (.tu [.s (.i .u64 bt8.1), .s (.i .i64 bt8.2)])] (fun e => ai (soft_read.c A1) (ai (n0 c2) (ai (op_e e3) (ai (soft_nan_turned.c A7) (ai (soft_tell.c A8) e))))) (by kernel_rfl)
  ·obtain ⟨t9, A9, h⟩ := bnd h
   obtain ⟨bt10, A10, h⟩ := bnd h
   have h := si h; subst h
   exact pth Tryz.func21 [.r (.tu [.s (.ifc (opT bt1.1) (opL bt1.1)), .s (.i .i64 bt1.2)]), .br false, .cs (.ifc 95 [.b ob2]), .r (.s (.ifc (opT t9) (opL t9))), .r (.tu [.s (.i .u64 bt10.1), .s (.i .i64 bt10.2)])] (fun e => ai (soft_read.c A1) (ai (n0 c2) (ai (op_e e4) (ai (soft_infinite_turned.c A9) (ai (soft_tell.c A10) e))))) (by kernel_rfl)
  ·obtain ⟨t11, A11, h⟩ := bnd h
   obtain ⟨bt12, A12, h⟩ := bnd h
   have h := si h; subst h
   exact pth Tryz.func21 [.r (.tu [.s (.ifc (opT bt1.1) (opL bt1.1)), .s (.i .i64 bt1.2)]), .br false, .cs (.ifc 94 [.b ob3]), .r (.s (.ifc (opT t11) (opL t11))), .r (.tu [.s (.i .u64 bt12.1), .s (.i .i64 bt12.2)])] (fun e => ai (soft_read.c A1) (ai (n0 c2) (ai (op_e e5) (ai (soft_nought_turned.c A11) (ai (soft_tell.c A12) e))))) (by kernel_rfl)
  ·obtain ⟨t13, A13, h⟩ := bnd h
   obtain ⟨bt14, A14, h⟩ := bnd h
   have h := si h; subst h
   exact pth Tryz.func21 [.r (.tu [.s (.ifc (opT bt1.1) (opL bt1.1)), .s (.i .i64 bt1.2)]), .br false, .cs (.ifc 88 [.b ob4, .sl .u64 ol5, .i .i64 ox6]), .r (.s (.ifc (opT t13) (opL t13))), .r (.tu [.s (.i .u64 bt14.1), .s (.i .i64 bt14.2)])] (fun e => ai (soft_read.c A1) (ai (n0 c2) (ai (op_e e6) (ai (soft_number_turned.c A13) (ai (soft_tell.c A14) e))))) (by kernel_rfl)
 ·have h := si h; subst h
  exact pth Tryz.func21 [.r (.tu [.s (.ifc (opT bt1.1) (opL bt1.1)), .s (.i .i64 bt1.2)]), .br true] (fun e => ai (soft_read.c A1) (ai (n1 c2) e)) (by kernel_rfl)
def soft_Abs.f (k : Nat) (a0 : Int) (a1 : Int) : Option (Int × Int) := (soft_read.f k a0 a1).bind fun bt1 => (if bt1.2 = 0 then (opm bt1.1 ((soft_nan_below.f).bind fun t7 => (if t7 = true then ((soft_nan_turned.f).bind fun t8 => ((soft_tell.f k a0 t8).bind fun bt9 => (some (bt9.1, bt9.2)))) else ((soft_tell.f k a0 bt1.1).bind fun bt10 => (some (bt10.1, bt10.2))))) (fun ob2 => ((soft_infinite_below.f ob2).bind fun t11 => (if t11 = true then ((soft_infinite_turned.f ob2).bind fun t12 => ((soft_tell.f k a0 t12).bind fun bt13 => (some (bt13.1, bt13.2)))) else ((soft_tell.f k a0 bt1.1).bind fun bt14 => (some (bt14.1, bt14.2)))))) (fun ob3 => ((soft_nought_below.f ob3).bind fun t15 => (if t15 = true then ((soft_nought_turned.f ob3).bind fun t16 => ((soft_tell.f k a0 t16).bind fun bt17 => (some (bt17.1, bt17.2)))) else ((soft_tell.f k a0 bt1.1).bind fun bt18 => (some (bt18.1, bt18.2)))))) (fun ob4 ol5 ox6 => ((soft_number_below.f ob4 ol5 ox6).bind fun t19 => (if t19 = true then ((soft_number_turned.f k ob4 ol5 ox6).bind fun t20 => ((soft_tell.f k a0 t20).bind fun bt21 => (some (bt21.1, bt21.2)))) else ((soft_tell.f k a0 bt1.1).bind fun bt22 => (some (bt22.1, bt22.2))))))) else (some (0, bt1.2)))
theorem soft_Abs.mono : ∀ a0 a1 k, LeO (soft_Abs.f k a0 a1) (soft_Abs.f (k + 1) a0 a1) := by
 intro a0 a1 k
 unfold soft_Abs.f
 repeat' first
  | (with_reducible exact soft_number_turned.mono _ _ _ _)
  | (with_reducible exact soft_read.mono _ _ _)
  | (with_reducible exact soft_tell.mono _ _ _)
  | (with_reducible exact LeO.refl _)
  | (with_reducible exact LeO.none _)
  | (with_reducible refine LeO.ite ?_ ?_)
  | (with_reducible refine LeO.bind ?_ (fun _ => ?_))
  | (with_reducible refine LeO.opm ?_ (fun _ => ?_) (fun _ => ?_) (fun _ _ _ => ?_))
theorem soft_Abs.c {k : Nat} {a0 : Int} {a1 : Int} {r : Int × Int} (h : soft_Abs.f k a0 a1 = some r) : Con Tryz.prog Gw 22 [.s (.i .i64 a0), .s (.i .u64 a1)] (· = .tu [.s (.i .u64 r.1), .s (.i .i64 r.2)]) := by
 unfold soft_Abs.f at h
 obtain ⟨bt1, A1, h⟩ := bnd h
 rcases ite_e h with ⟨c2, h⟩ | ⟨c2, h⟩
 ·rcases opm_e h with ⟨e3, h⟩ | ⟨ob2, e4, h⟩ | ⟨ob3, e5, h⟩ | ⟨ob4, ol5, ox6, e6, h⟩
  ·obtain ⟨t7, A7, h⟩ := bnd h
   rcases ite_e h with ⟨c8, h⟩ | ⟨c8, h⟩
   ·obtain ⟨t8, A9, h⟩ := bnd h
    obtain ⟨bt9, A10, h⟩ := bnd h
    have h := si h; subst h
    exact pth Tryz.func22 [.r (.tu [.s (.ifc (opT bt1.1) (opL bt1.1)), .s (.i .i64 bt1.2)]), .br false, .cs (.ifc 144 []), .r (.s (.b t7)), .br true, .cs (.ifc 144 []), .r (.s (.ifc (opT t8) (opL t8))), .r (.tu [.s (.i .u64 bt9.1), .s (.i .i64 bt9.2)])] (fun e => ai (soft_read.c A1) (ai (n0 c2) (ai (op_e e3) (ai (soft_nan_below.c A7) (ai c8 (ai (op_e e3) (ai (soft_nan_turned.c A9) (ai (soft_tell.c A10) e)))))))) (by kernel_rfl)
   ·obtain ⟨bt10, A11, h⟩ := bnd h
    have h := si h; subst h
    exact pth Tryz.func22 [.r (.tu [.s (.ifc (opT bt1.1) (opL bt1.1)), .s (.i .i64 bt1.2)]), .br false, .cs (.ifc 144 []), .r (.s (.b t7)), .br false, .r (.tu [.s (.i .u64 bt10.1), .s (.i .i64 bt10.2)])] (fun e => ai (soft_read.c A1) (ai (n0 c2) (ai (op_e e3) (ai (soft_nan_below.c A7) (ai (z0 c8) (ai (soft_tell.c A11) e)))))) (by kernel_rfl)
  ·obtain ⟨t11, A12, h⟩ := bnd h
   rcases ite_e h with ⟨c13, h⟩ | ⟨c13, h⟩
   ·obtain ⟨t12, A14, h⟩ := bnd h
    obtain ⟨bt13, A15, h⟩ := bnd h
    have h := si h; subst h
    exact pth Tryz.func22 [.r (.tu [.s (.ifc (opT bt1.1) (opL bt1.1)), .s (.i .i64 bt1.2)]), .br false, .cs (.ifc 95 [.b ob2]), .r (.s (.b t11)), .br true, .cs (.ifc 95 [.b ob2]), .r (.s (.ifc (opT t12) (opL t12))), .r (.tu [.s (.i .u64 bt13.1), .s (.i .i64 bt13.2)])] (fun e => ai (soft_read.c A1) (ai (n0 c2) (ai (op_e e4) (ai (soft_infinite_below.c A12) (ai c13 (ai (op_e e4) (ai (soft_infinite_turned.c A14) (ai (soft_tell.c A15) e)))))))) (by kernel_rfl)
   ·obtain ⟨bt14, A16, h⟩ := bnd h
    have h := si h; subst h
    exact pth Tryz.func22 [.r (.tu [.s (.ifc (opT bt1.1) (opL bt1.1)), .s (.i .i64 bt1.2)]), .br false, .cs (.ifc 95 [.b ob2]), .r (.s (.b t11)), .br false, .r (.tu [.s (.i .u64 bt14.1), .s (.i .i64 bt14.2)])] (fun e => ai (soft_read.c A1) (ai (n0 c2) (ai (op_e e4) (ai (soft_infinite_below.c A12) (ai (z0 c13) (ai (soft_tell.c A16) e)))))) (by kernel_rfl)
  ·obtain ⟨t15, A17, h⟩ := bnd h
   rcases ite_e h with ⟨c18, h⟩ | ⟨c18, h⟩
   ·obtain ⟨t16, A19, h⟩ := bnd h
    obtain ⟨bt17, A20, h⟩ := bnd h
    have h := si h; subst h
    exact pth Tryz.func22 [.r (.tu [.s (.ifc (opT bt1.1) (opL bt1.1)), .s (.i .i64 bt1.2)]), .br false, .cs (.ifc 94 [.b ob3]), .r (.s (.b t15)), .br true, .cs (.ifc 94 [.b ob3]), .r (.s (.ifc (opT t16) (opL t16))), .r (.tu [.s (.i .u64 bt17.1), .s (.i .i64 bt17.2)])] (fun e => ai (soft_read.c A1) (ai (n0 c2) (ai (op_e e5) (ai (soft_nought_below.c A17) (ai c18 (ai (op_e e5) (ai (soft_nought_turned.c A19) (ai (soft_tell.c A20) e)))))))) (by kernel_rfl)
   ·obtain ⟨bt18, A21, h⟩ := bnd h
    have h := si h; subst h
    exact pth Tryz.func22 [.r (.tu [.s (.ifc (opT bt1.1) (opL bt1.1)), .s (.i .i64 bt1.2)]), .br false, .cs (.ifc 94 [.b ob3]), .r (.s (.b t15)), .br false, .r (.tu [.s (.i .u64 bt18.1), .s (.i .i64 bt18.2)])] (fun e => ai (soft_read.c A1) (ai (n0 c2) (ai (op_e e5) (ai (soft_nought_below.c A17) (ai (z0 c18) (ai (soft_tell.c A21) e)))))) (by kernel_rfl)
  ·obtain ⟨t19, A22, h⟩ := bnd h
   rcases ite_e h with ⟨c23, h⟩ | ⟨c23, h⟩
   ·obtain ⟨t20, A24, h⟩ := bnd h
    obtain ⟨bt21, A25, h⟩ := bnd h
    have h := si h; subst h
    exact pth Tryz.func22 [.r (.tu [.s (.ifc (opT bt1.1) (opL bt1.1)), .s (.i .i64 bt1.2)]), .br false, .cs (.ifc 88 [.b ob4, .sl .u64 ol5, .i .i64 ox6]), .r (.s (.b t19)), .br true, .cs (.ifc 88 [.b ob4, .sl .u64 ol5, .i .i64 ox6]), .r (.s (.ifc (opT t20) (opL t20))), .r (.tu [.s (.i .u64 bt21.1), .s (.i .i64 bt21.2)])] (fun e => ai (soft_read.c A1) (ai (n0 c2) (ai (op_e e6) (ai (soft_number_below.c A22) (ai c23 (ai (op_e e6) (ai (soft_number_turned.c A24) (ai (soft_tell.c A25) e)))))))) (by kernel_rfl)
   ·obtain ⟨bt22, A26, h⟩ := bnd h
    have h := si h; subst h
    exact pth Tryz.func22 [.r (.tu [.s (.ifc (opT bt1.1) (opL bt1.1)), .s (.i .i64 bt1.2)]), .br false, .cs (.ifc 88 [.b ob4, .sl .u64 ol5, .i .i64 ox6]), .r (.s (.b t19)), .br false, .r (.tu [.s (.i .u64 bt22.1), .s (.i .i64 bt22.2)])] (fun e => ai (soft_read.c A1) (ai (n0 c2) (ai (op_e e6) (ai (soft_number_below.c A22) (ai (z0 c23) (ai (soft_tell.c A26) e)))))) (by kernel_rfl)
 ·have h := si h; subst h
  exact pth Tryz.func22 [.r (.tu [.s (.ifc (opT bt1.1) (opL bt1.1)), .s (.i .i64 bt1.2)]), .br true] (fun e => ai (soft_read.c A1) (ai (n1 c2) e)) (by kernel_rfl)
def soft_Compare.f (k : Nat) (a0 : Int) (a1 : Int) (a2 : Int) : Option (Int × Int) := (soft_pair.f k a0 a1 a2).bind fun bt1 => (if bt1.2.2 = 0 then ((soft_none.f bt1.1).bind fun t2 => (if t2 = true then (some (2, 0)) else ((soft_none.f bt1.2.1).bind fun t3 => (if t3 = true then (some (2, 0)) else ((binary_Rank.f k a0 a1).bind fun bt4 => ((binary_Rank.f k a0 a2).bind fun bt5 => (if bt4.1 < bt5.1 then (some ((-1), 0)) else (if bt4.1 > bt5.1 then (some (1, 0)) else (some (0, 0)))))))))) else (some (0, bt1.2.2)))
theorem soft_Compare.mono : ∀ a0 a1 a2 k, LeO (soft_Compare.f k a0 a1 a2) (soft_Compare.f (k + 1) a0 a1 a2) := by
 intro a0 a1 a2 k
 unfold soft_Compare.f
 repeat' first
  | (with_reducible exact binary_Rank.mono _ _ _)
  | (with_reducible exact soft_pair.mono _ _ _ _)
  | (with_reducible exact LeO.refl _)
  | (with_reducible exact LeO.none _)
  | (with_reducible refine LeO.ite ?_ ?_)
  | (with_reducible refine LeO.bind ?_ (fun _ => ?_))
theorem soft_Compare.c {k : Nat} {a0 : Int} {a1 : Int} {a2 : Int} {r : Int × Int} (h : soft_Compare.f k a0 a1 a2 = some r) : Con Tryz.prog Gw 24 [.s (.i .i64 a0), .s (.i .u64 a1), .s (.i .u64 a2)] (· = .tu [.s (.i .i64 r.1), .s (.i .i64 r.2)]) := by
 unfold soft_Compare.f at h
 obtain ⟨bt1, A1, h⟩ := bnd h
 rcases ite_e h with ⟨c2, h⟩ | ⟨c2, h⟩
 ·obtain ⟨t2, A3, h⟩ := bnd h
  rcases ite_e h with ⟨c4, h⟩ | ⟨c4, h⟩
  ·have h := si h; subst h
   exact pth Tryz.func24 [.r (.tu [.s (.ifc (opT bt1.1) (opL bt1.1)), .s (.ifc (opT bt1.2.1) (opL bt1.2.1)), .s (.i .i64 bt1.2.2)]), .br false, .r (.s (.b t2)), .br true, .br true, .br true, .br true] (fun e => ai (soft_pair.c A1) (ai (n0 c2) (ai (soft_none.c A3) (ai c4 (ai c4 (ai c4 (ai tt e))))))) (by kernel_rfl)
  ·obtain ⟨t3, A5, h⟩ := bnd h
   rcases ite_e h with ⟨c6, h⟩ | ⟨c6, h⟩
   ·have h := si h; subst h
    exact pth Tryz.func24 [.r (.tu [.s (.ifc (opT bt1.1) (opL bt1.1)), .s (.ifc (opT bt1.2.1) (opL bt1.2.1)), .s (.i .i64 bt1.2.2)]), .br false, .r (.s (.b t2)), .br false, .br false, .r (.s (.b t3)), .br false, .br true] (fun e => ai (soft_pair.c A1) (ai (n0 c2) (ai (soft_none.c A3) (ai (z0 c4) (ai (z0 c4) (ai (soft_none.c A5) (ai (z0 c4) (ai c6 e)))))))) (by kernel_rfl)
   ·obtain ⟨bt4, A7, h⟩ := bnd h
    obtain ⟨bt5, A8, h⟩ := bnd h
    rcases ite_e h with ⟨c9, h⟩ | ⟨c9, h⟩
    ·have h := si h; subst h
     exact pth Tryz.func24 [.r (.tu [.s (.ifc (opT bt1.1) (opL bt1.1)), .s (.ifc (opT bt1.2.1) (opL bt1.2.1)), .s (.i .i64 bt1.2.2)]), .br false, .r (.s (.b t2)), .br false, .br false, .r (.s (.b t3)), .br false, .br false, .r (.tu [.s (.i .i64 bt4.1), .s (.i .i64 bt4.2)]), .r (.tu [.s (.i .i64 bt5.1), .s (.i .i64 bt5.2)]), .br true] (fun e => ai (soft_pair.c A1) (ai (n0 c2) (ai (soft_none.c A3) (ai (z0 c4) (ai (z0 c4) (ai (soft_none.c A5) (ai (z0 c4) (ai (z0 c6) (ai (binary_Rank.c A7) (ai (binary_Rank.c A8) (ai (d1 c9) e))))))))))) (by kernel_rfl)
    ·rcases ite_e h with ⟨c10, h⟩ | ⟨c10, h⟩
     ·have h := si h; subst h
      exact pth Tryz.func24 [.r (.tu [.s (.ifc (opT bt1.1) (opL bt1.1)), .s (.ifc (opT bt1.2.1) (opL bt1.2.1)), .s (.i .i64 bt1.2.2)]), .br false, .r (.s (.b t2)), .br false, .br false, .r (.s (.b t3)), .br false, .br false, .r (.tu [.s (.i .i64 bt4.1), .s (.i .i64 bt4.2)]), .r (.tu [.s (.i .i64 bt5.1), .s (.i .i64 bt5.2)]), .br false, .br true] (fun e => ai (soft_pair.c A1) (ai (n0 c2) (ai (soft_none.c A3) (ai (z0 c4) (ai (z0 c4) (ai (soft_none.c A5) (ai (z0 c4) (ai (z0 c6) (ai (binary_Rank.c A7) (ai (binary_Rank.c A8) (ai (d0 c9) (ai (d1 c10) e)))))))))))) (by kernel_rfl)
     ·have h := si h; subst h
      exact pth Tryz.func24 [.r (.tu [.s (.ifc (opT bt1.1) (opL bt1.1)), .s (.ifc (opT bt1.2.1) (opL bt1.2.1)), .s (.i .i64 bt1.2.2)]), .br false, .r (.s (.b t2)), .br false, .br false, .r (.s (.b t3)), .br false, .br false, .r (.tu [.s (.i .i64 bt4.1), .s (.i .i64 bt4.2)]), .r (.tu [.s (.i .i64 bt5.1), .s (.i .i64 bt5.2)]), .br false, .br false] (fun e => ai (soft_pair.c A1) (ai (n0 c2) (ai (soft_none.c A3) (ai (z0 c4) (ai (z0 c4) (ai (soft_none.c A5) (ai (z0 c4) (ai (z0 c6) (ai (binary_Rank.c A7) (ai (binary_Rank.c A8) (ai (d0 c9) (ai (d0 c10) e)))))))))))) (by kernel_rfl)
 ·have h := si h; subst h
  exact pth Tryz.func24 [.r (.tu [.s (.ifc (opT bt1.1) (opL bt1.1)), .s (.ifc (opT bt1.2.1) (opL bt1.2.1)), .s (.i .i64 bt1.2.2)]), .br true] (fun e => ai (soft_pair.c A1) (ai (n1 c2) e)) (by kernel_rfl)
def num_Mul.f (a0_0 : Bool) (l0_1 : List Int) (a1_0 : Bool) (l1_1 : List Int) : Option (Bool × List Int × Int) := (num_Form.f a0_0 l0_1).bind fun t1 => (if t1 = true then ((num_Form.f a1_0 l1_1).bind fun t2 => (if t2 = true then ((natmul_Mul.f l0_1 l1_1).bind fun bt3 => ((num_told.f (a0_0 != a1_0) bt3.1 bt3.2).bind fun bt4 => (some (bt4.1, bt4.2.1, bt4.2.2)))) else (some (false, ([] : List Int), 2)))) else (some (false, ([] : List Int), 2)))
theorem num_Mul.c {a0_0 : Bool} {l0_1 : List Int} {a1_0 : Bool} {l1_1 : List Int} {r : Bool × List Int × Int} (h : num_Mul.f a0_0 l0_1 a1_0 l1_1 = some r) : Con Tryz.prog Gw 151 [.ag [.b a0_0, .sl .u64 l0_1], .ag [.b a1_0, .sl .u64 l1_1]] (· = .tu [.ag [.b r.1, .sl .u64 r.2.1], .s (.i .i64 r.2.2)]) := by
 unfold num_Mul.f at h
 obtain ⟨t1, A1, h⟩ := bnd h
 rcases ite_e h with ⟨c2, h⟩ | ⟨c2, h⟩
 ·obtain ⟨t2, A3, h⟩ := bnd h
  rcases ite_e h with ⟨c4, h⟩ | ⟨c4, h⟩
  ·obtain ⟨bt3, A5, h⟩ := bnd h
   obtain ⟨bt4, A6, h⟩ := bnd h
   have h := si h; subst h
   exact pth Tryz.func151 [.r (.s (.b t1)), .br false, .br false, .r (.s (.b t2)), .br false, .br false, .br false, .r (.tu [.s (.sl .u64 bt3.1), .s (.i .i64 bt3.2)]), .r (.tu [.ag [.b bt4.1, .sl .u64 bt4.2.1], .s (.i .i64 bt4.2.2)])] (fun e => ai (num_Form.c A1) (ai (nt1 c2) (ai (nt1 c2) (ai (num_Form.c A3) (ai (nt1 c2) (ai (nt1 c2) (ai (nt1 c4) (ai (natmul_Mul.c A5) (ai (num_told.c A6) e))))))))) (by kernel_rfl)
  ·have h := si h; subst h
   exact pth Tryz.func151 [.r (.s (.b t1)), .br false, .br false, .r (.s (.b t2)), .br false, .br false, .br true] (fun e => ai (num_Form.c A1) (ai (nt1 c2) (ai (nt1 c2) (ai (num_Form.c A3) (ai (nt1 c2) (ai (nt1 c2) (ai (nt0 (z0 c4)) e))))))) (by kernel_rfl)
 ·have h := si h; subst h
  exact pth Tryz.func151 [.r (.s (.b t1)), .br true, .br true, .br true, .br true, .br true] (fun e => ai (num_Form.c A1) (ai (nt0 (z0 c2)) (ai (nt0 (z0 c2)) (ai (nt0 (z0 c2)) (ai (nt0 (z0 c2)) (ai tt e)))))) (by kernel_rfl)
def dyadic_Mul.f (k : Nat) (a0_0 : Bool) (l0_1 : List Int) (a0_2 : Int) (a1_0 : Bool) (l1_1 : List Int) (a1_2 : Int) : Option (Bool × List Int × Int × Int) := (dyadic_Form.f k a0_0 l0_1 a0_2).bind fun t1 => (if t1 = true then ((dyadic_Form.f k a1_0 l1_1 a1_2).bind fun t2 => (if t2 = true then ((num_Mul.f a0_0 l0_1 a1_0 l1_1).bind fun bt3 => (if bt3.2.2 = 0 then ((dyadic_Make.f k bt3.1 bt3.2.1 (wrap64 (a0_2 + a1_2))).bind fun bt4 => (some (bt4.1, bt4.2.1, bt4.2.2.1, bt4.2.2.2))) else (some (false, ([] : List Int), 0, bt3.2.2)))) else (some (false, ([] : List Int), 0, 2)))) else (some (false, ([] : List Int), 0, 2)))
theorem dyadic_Mul.mono : ∀ a0 a1 a2 a3 a4 a5 k, LeO (dyadic_Mul.f k a0 a1 a2 a3 a4 a5) (dyadic_Mul.f (k + 1) a0 a1 a2 a3 a4 a5) := by
 intro a0 a1 a2 a3 a4 a5 k
 unfold dyadic_Mul.f
 repeat' first
  | (with_reducible exact dyadic_Form.mono _ _ _ _)
  | (with_reducible exact dyadic_Make.mono _ _ _ _)
  | (with_reducible exact LeO.refl _)
  | (with_reducible exact LeO.none _)
  | (with_reducible refine LeO.ite ?_ ?_)
  | (with_reducible refine LeO.bind ?_ (fun _ => ?_))
theorem dyadic_Mul.c {k : Nat} {a0_0 : Bool} {l0_1 : List Int} {a0_2 : Int} {a1_0 : Bool} {l1_1 : List Int} {a1_2 : Int} {r : Bool × List Int × Int × Int} (h : dyadic_Mul.f k a0_0 l0_1 a0_2 a1_0 l1_1 a1_2 = some r) : Con Tryz.prog Gw 114 [.ag [.b a0_0, .sl .u64 l0_1, .i .i64 a0_2], .ag [.b a1_0, .sl .u64 l1_1, .i .i64 a1_2]] (· = .tu [.ag [.b r.1, .sl .u64 r.2.1, .i .i64 r.2.2.1], .s (.i .i64 r.2.2.2)]) := by
 unfold dyadic_Mul.f at h
 obtain ⟨t1, A1, h⟩ := bnd h
 rcases ite_e h with ⟨c2, h⟩ | ⟨c2, h⟩
 ·obtain ⟨t2, A3, h⟩ := bnd h
  rcases ite_e h with ⟨c4, h⟩ | ⟨c4, h⟩
  ·obtain ⟨bt3, A5, h⟩ := bnd h
   rcases ite_e h with ⟨c6, h⟩ | ⟨c6, h⟩
   ·obtain ⟨bt4, A7, h⟩ := bnd h
    have h := si h; subst h
    exact pth Tryz.func114 [.r (.s (.b t1)), .br false, .br false, .r (.s (.b t2)), .br false, .br false, .br false, .r (.tu [.ag [.b bt3.1, .sl .u64 bt3.2.1], .s (.i .i64 bt3.2.2)]), .br false, .r (.tu [.ag [.b bt4.1, .sl .u64 bt4.2.1, .i .i64 bt4.2.2.1], .s (.i .i64 bt4.2.2.2)])] (fun e => ai (dyadic_Form.c A1) (ai (nt1 c2) (ai (nt1 c2) (ai (dyadic_Form.c A3) (ai (nt1 c2) (ai (nt1 c2) (ai (nt1 c4) (ai (num_Mul.c A5) (ai (n0 c6) (ai (dyadic_Make.c A7) e)))))))))) (by kernel_rfl)
   ·have h := si h; subst h
    exact pth Tryz.func114 [.r (.s (.b t1)), .br false, .br false, .r (.s (.b t2)), .br false, .br false, .br false, .r (.tu [.ag [.b bt3.1, .sl .u64 bt3.2.1], .s (.i .i64 bt3.2.2)]), .br true] (fun e => ai (dyadic_Form.c A1) (ai (nt1 c2) (ai (nt1 c2) (ai (dyadic_Form.c A3) (ai (nt1 c2) (ai (nt1 c2) (ai (nt1 c4) (ai (num_Mul.c A5) (ai (n1 c6) e))))))))) (by kernel_rfl)
  ·have h := si h; subst h
   exact pth Tryz.func114 [.r (.s (.b t1)), .br false, .br false, .r (.s (.b t2)), .br false, .br false, .br true] (fun e => ai (dyadic_Form.c A1) (ai (nt1 c2) (ai (nt1 c2) (ai (dyadic_Form.c A3) (ai (nt1 c2) (ai (nt1 c2) (ai (nt0 (z0 c4)) e))))))) (by kernel_rfl)
 ·have h := si h; subst h
  exact pth Tryz.func114 [.r (.s (.b t1)), .br true, .br true, .br true, .br true, .br true] (fun e => ai (dyadic_Form.c A1) (ai (nt0 (z0 c2)) (ai (nt0 (z0 c2)) (ai (nt0 (z0 c2)) (ai (nt0 (z0 c2)) (ai tt e)))))) (by kernel_rfl)
def soft_times.f (k : Nat) (a0 : Opd) (a1 : Opd) : Option (Opd) := opm a0 ((soft_nan_below.f).bind fun t6 => (opm a1 ((soft_nan_below.f).bind fun t12 => (some Opd.nan)) (fun ob7 => ((soft_infinite_below.f ob7).bind fun t13 => (some Opd.nan))) (fun ob8 => ((soft_nought_below.f ob8).bind fun t14 => (some Opd.nan))) (fun ob9 ol10 ox11 => ((soft_number_below.f ob9 ol10 ox11).bind fun t15 => (some Opd.nan))))) (fun ob1 => ((soft_infinite_below.f ob1).bind fun t16 => (opm a1 ((soft_nan_below.f).bind fun t22 => (some Opd.nan)) (fun ob17 => ((soft_infinite_below.f ob17).bind fun t23 => (some (Opd.inf (t16 != t23))))) (fun ob18 => ((soft_nought_below.f ob18).bind fun t24 => (some Opd.nan))) (fun ob19 ol20 ox21 => ((soft_number_below.f ob19 ol20 ox21).bind fun t25 => (some (Opd.inf (t16 != t25)))))))) (fun ob2 => ((soft_nought_below.f ob2).bind fun t26 => (opm a1 ((soft_nan_below.f).bind fun t32 => (some Opd.nan)) (fun ob27 => ((soft_infinite_below.f ob27).bind fun t33 => (some Opd.nan))) (fun ob28 => ((soft_nought_below.f ob28).bind fun t34 => (some (Opd.nou (t26 != t34))))) (fun ob29 ol30 ox31 => ((soft_number_below.f ob29 ol30 ox31).bind fun t35 => (some (Opd.nou (t26 != t35)))))))) (fun ob3 ol4 ox5 => ((soft_number_below.f ob3 ol4 ox5).bind fun t36 => (opm a1 ((soft_nan_below.f).bind fun t42 => (some Opd.nan)) (fun ob37 => ((soft_infinite_below.f ob37).bind fun t43 => (some (Opd.inf (t36 != t43))))) (fun ob38 => ((soft_nought_below.f ob38).bind fun t44 => (some (Opd.nou (t36 != t44))))) (fun ob39 ol40 ox41 => ((soft_number_below.f ob39 ol40 ox41).bind fun t45 => ((dyadic_Mul.f k ob3 ol4 ox5 ob39 ol40 ox41).bind fun bt46 => (some (Opd.num bt46.1 bt46.2.1 bt46.2.2.1))))))))
theorem soft_times.mono : ∀ a0 a1 k, LeO (soft_times.f k a0 a1) (soft_times.f (k + 1) a0 a1) := by
 intro a0 a1 k
 unfold soft_times.f
 repeat' first
  | (with_reducible exact dyadic_Mul.mono _ _ _ _ _ _ _)
  | (with_reducible exact LeO.refl _)
  | (with_reducible exact LeO.none _)
  | (with_reducible refine LeO.ite ?_ ?_)
  | (with_reducible refine LeO.bind ?_ (fun _ => ?_))
  | (with_reducible refine LeO.opm ?_ (fun _ => ?_) (fun _ => ?_) (fun _ _ _ => ?_))
theorem soft_times.c {k : Nat} {a0 : Opd} {a1 : Opd} {r : Opd} (h : soft_times.f k a0 a1 = some r) : Con Tryz.prog Gw 58 [.s (.ifc (opT a0) (opL a0)), .s (.ifc (opT a1) (opL a1))] (· = .s (.ifc (opT r) (opL r))) := by
 unfold soft_times.f at h
 rcases opm_e h with ⟨e1, h⟩ | ⟨ob1, e2, h⟩ | ⟨ob2, e3, h⟩ | ⟨ob3, ol4, ox5, e4, h⟩
 ·obtain ⟨t6, A5, h⟩ := bnd h
  rcases opm_e h with ⟨e6, h⟩ | ⟨ob7, e7, h⟩ | ⟨ob8, e8, h⟩ | ⟨ob9, ol10, ox11, e9, h⟩
  ·obtain ⟨t12, A10, h⟩ := bnd h
   have h := si h; subst h
   exact pth Tryz.func58 [.cs (.ifc 144 []), .r (.s (.b t6)), .cs (.ifc 144 []), .r (.s (.b t12)), .cs (.ifc 144 []), .br true] (fun e => ai (op_e e1) (ai (soft_nan_below.c A5) (ai (op_e e6) (ai (soft_nan_below.c A10) (ai (op_e e1) (ai tt e)))))) (by kernel_rfl)
  ·obtain ⟨t13, A11, h⟩ := bnd h
   have h := si h; subst h
   exact pth Tryz.func58 [.cs (.ifc 144 []), .r (.s (.b t6)), .cs (.ifc 95 [.b ob7]), .r (.s (.b t13)), .cs (.ifc 144 []), .br true] (fun e => ai (op_e e1) (ai (soft_nan_below.c A5) (ai (op_e e7) (ai (soft_infinite_below.c A11) (ai (op_e e1) (ai tt e)))))) (by kernel_rfl)
  ·obtain ⟨t14, A12, h⟩ := bnd h
   have h := si h; subst h
   exact pth Tryz.func58 [.cs (.ifc 144 []), .r (.s (.b t6)), .cs (.ifc 94 [.b ob8]), .r (.s (.b t14)), .cs (.ifc 144 []), .br true] (fun e => ai (op_e e1) (ai (soft_nan_below.c A5) (ai (op_e e8) (ai (soft_nought_below.c A12) (ai (op_e e1) (ai tt e)))))) (by kernel_rfl)
  ·obtain ⟨t15, A13, h⟩ := bnd h
   have h := si h; subst h
   exact pth Tryz.func58 [.cs (.ifc 144 []), .r (.s (.b t6)), .cs (.ifc 88 [.b ob9, .sl .u64 ol10, .i .i64 ox11]), .r (.s (.b t15)), .cs (.ifc 144 []), .br true] (fun e => ai (op_e e1) (ai (soft_nan_below.c A5) (ai (op_e e9) (ai (soft_number_below.c A13) (ai (op_e e1) (ai tt e)))))) (by kernel_rfl)
 ·obtain ⟨t16, A14, h⟩ := bnd h
  rcases opm_e h with ⟨e15, h⟩ | ⟨ob17, e16, h⟩ | ⟨ob18, e17, h⟩ | ⟨ob19, ol20, ox21, e18, h⟩
  ·obtain ⟨t22, A19, h⟩ := bnd h
   have h := si h; subst h
   exact pth Tryz.func58 [.cs (.ifc 95 [.b ob1]), .r (.s (.b t16)), .cs (.ifc 144 []), .r (.s (.b t22)), .cs (.ifc 95 [.b ob1]), .br false, .cs (.ifc 95 [.b ob1]), .br true, .cs (.ifc 144 []), .br true] (fun e => ai (op_e e2) (ai (soft_infinite_below.c A14) (ai (op_e e15) (ai (soft_nan_below.c A19) (ai (op_e e2) (ai ff (ai (op_e e2) (ai tt (ai (op_e e15) (ai tt e)))))))))) (by kernel_rfl)
  ·obtain ⟨t23, A20, h⟩ := bnd h
   have h := si h; subst h
   exact pth Tryz.func58 [.cs (.ifc 95 [.b ob1]), .r (.s (.b t16)), .cs (.ifc 95 [.b ob17]), .r (.s (.b t23)), .cs (.ifc 95 [.b ob1]), .br false, .cs (.ifc 95 [.b ob1]), .br true, .cs (.ifc 95 [.b ob17]), .br false, .cs (.ifc 95 [.b ob17]), .br false] (fun e => ai (op_e e2) (ai (soft_infinite_below.c A14) (ai (op_e e16) (ai (soft_infinite_below.c A20) (ai (op_e e2) (ai ff (ai (op_e e2) (ai tt (ai (op_e e16) (ai ff (ai (op_e e16) (ai ff e)))))))))))) (by kernel_rfl)
  ·obtain ⟨t24, A21, h⟩ := bnd h
   have h := si h; subst h
   exact pth Tryz.func58 [.cs (.ifc 95 [.b ob1]), .r (.s (.b t16)), .cs (.ifc 94 [.b ob18]), .r (.s (.b t24)), .cs (.ifc 95 [.b ob1]), .br false, .cs (.ifc 95 [.b ob1]), .br true, .cs (.ifc 94 [.b ob18]), .br false, .cs (.ifc 94 [.b ob18]), .br true] (fun e => ai (op_e e2) (ai (soft_infinite_below.c A14) (ai (op_e e17) (ai (soft_nought_below.c A21) (ai (op_e e2) (ai ff (ai (op_e e2) (ai tt (ai (op_e e17) (ai ff (ai (op_e e17) (ai tt e)))))))))))) (by kernel_rfl)
  ·obtain ⟨t25, A22, h⟩ := bnd h
   have h := si h; subst h
   exact pth Tryz.func58 [.cs (.ifc 95 [.b ob1]), .r (.s (.b t16)), .cs (.ifc 88 [.b ob19, .sl .u64 ol20, .i .i64 ox21]), .r (.s (.b t25)), .cs (.ifc 95 [.b ob1]), .br false, .cs (.ifc 95 [.b ob1]), .br true, .cs (.ifc 88 [.b ob19, .sl .u64 ol20, .i .i64 ox21]), .br false, .cs (.ifc 88 [.b ob19, .sl .u64 ol20, .i .i64 ox21]), .br false] (fun e => ai (op_e e2) (ai (soft_infinite_below.c A14) (ai (op_e e18) (ai (soft_number_below.c A22) (ai (op_e e2) (ai ff (ai (op_e e2) (ai tt (ai (op_e e18) (ai ff (ai (op_e e18) (ai ff e)))))))))))) (by kernel_rfl)
 ·obtain ⟨t26, A23, h⟩ := bnd h
  rcases opm_e h with ⟨e24, h⟩ | ⟨ob27, e25, h⟩ | ⟨ob28, e26, h⟩ | ⟨ob29, ol30, ox31, e27, h⟩
  ·obtain ⟨t32, A28, h⟩ := bnd h
   have h := si h; subst h
   exact pth Tryz.func58 [.cs (.ifc 94 [.b ob2]), .r (.s (.b t26)), .cs (.ifc 144 []), .r (.s (.b t32)), .cs (.ifc 94 [.b ob2]), .br false, .cs (.ifc 94 [.b ob2]), .br false, .cs (.ifc 94 [.b ob2]), .br true, .cs (.ifc 144 []), .cs (.ifc 144 []), .br true, .br true] (fun e => ai (op_e e3) (ai (soft_nought_below.c A23) (ai (op_e e24) (ai (soft_nan_below.c A28) (ai (op_e e3) (ai ff (ai (op_e e3) (ai ff (ai (op_e e3) (ai tt (ai (op_e e24) (ai (op_e e24) (ai tt (ai tt e)))))))))))))) (by kernel_rfl)
  ·obtain ⟨t33, A29, h⟩ := bnd h
   have h := si h; subst h
   exact pth Tryz.func58 [.cs (.ifc 94 [.b ob2]), .r (.s (.b t26)), .cs (.ifc 95 [.b ob27]), .r (.s (.b t33)), .cs (.ifc 94 [.b ob2]), .br false, .cs (.ifc 94 [.b ob2]), .br false, .cs (.ifc 94 [.b ob2]), .br true, .cs (.ifc 95 [.b ob27]), .cs (.ifc 95 [.b ob27]), .br false, .br true] (fun e => ai (op_e e3) (ai (soft_nought_below.c A23) (ai (op_e e25) (ai (soft_infinite_below.c A29) (ai (op_e e3) (ai ff (ai (op_e e3) (ai ff (ai (op_e e3) (ai tt (ai (op_e e25) (ai (op_e e25) (ai ff (ai tt e)))))))))))))) (by kernel_rfl)
  ·obtain ⟨t34, A30, h⟩ := bnd h
   have h := si h; subst h
   exact pth Tryz.func58 [.cs (.ifc 94 [.b ob2]), .r (.s (.b t26)), .cs (.ifc 94 [.b ob28]), .r (.s (.b t34)), .cs (.ifc 94 [.b ob2]), .br false, .cs (.ifc 94 [.b ob2]), .br false, .cs (.ifc 94 [.b ob2]), .br true, .cs (.ifc 94 [.b ob28]), .cs (.ifc 94 [.b ob28]), .br false, .br false] (fun e => ai (op_e e3) (ai (soft_nought_below.c A23) (ai (op_e e26) (ai (soft_nought_below.c A30) (ai (op_e e3) (ai ff (ai (op_e e3) (ai ff (ai (op_e e3) (ai tt (ai (op_e e26) (ai (op_e e26) (ai ff (ai ff e)))))))))))))) (by kernel_rfl)
  ·obtain ⟨t35, A31, h⟩ := bnd h
   have h := si h; subst h
   exact pth Tryz.func58 [.cs (.ifc 94 [.b ob2]), .r (.s (.b t26)), .cs (.ifc 88 [.b ob29, .sl .u64 ol30, .i .i64 ox31]), .r (.s (.b t35)), .cs (.ifc 94 [.b ob2]), .br false, .cs (.ifc 94 [.b ob2]), .br false, .cs (.ifc 94 [.b ob2]), .br true, .cs (.ifc 88 [.b ob29, .sl .u64 ol30, .i .i64 ox31]), .cs (.ifc 88 [.b ob29, .sl .u64 ol30, .i .i64 ox31]), .br false, .br false] (fun e => ai (op_e e3) (ai (soft_nought_below.c A23) (ai (op_e e27) (ai (soft_number_below.c A31) (ai (op_e e3) (ai ff (ai (op_e e3) (ai ff (ai (op_e e3) (ai tt (ai (op_e e27) (ai (op_e e27) (ai ff (ai ff e)))))))))))))) (by kernel_rfl)
 ·obtain ⟨t36, A32, h⟩ := bnd h
  rcases opm_e h with ⟨e33, h⟩ | ⟨ob37, e34, h⟩ | ⟨ob38, e35, h⟩ | ⟨ob39, ol40, ox41, e36, h⟩
  ·obtain ⟨t42, A37, h⟩ := bnd h
   have h := si h; subst h
   exact pth Tryz.func58 [.cs (.ifc 88 [.b ob3, .sl .u64 ol4, .i .i64 ox5]), .r (.s (.b t36)), .cs (.ifc 144 []), .r (.s (.b t42)), .cs (.ifc 88 [.b ob3, .sl .u64 ol4, .i .i64 ox5]), .br false, .cs (.ifc 88 [.b ob3, .sl .u64 ol4, .i .i64 ox5]), .br false, .cs (.ifc 88 [.b ob3, .sl .u64 ol4, .i .i64 ox5]), .br false, .cs (.ifc 88 [.b ob3, .sl .u64 ol4, .i .i64 ox5]), .br true, .cs (.ifc 144 []), .br false, .cs (.ifc 144 []), .br false, .cs (.ifc 144 []), .br false] (fun e => ai (op_e e4) (ai (soft_number_below.c A32) (ai (op_e e33) (ai (soft_nan_below.c A37) (ai (op_e e4) (ai ff (ai (op_e e4) (ai ff (ai (op_e e4) (ai ff (ai (op_e e4) (ai tt (ai (op_e e33) (ai ff (ai (op_e e33) (ai ff (ai (op_e e33) (ai ff e)))))))))))))))))) (by kernel_rfl)
  ·obtain ⟨t43, A38, h⟩ := bnd h
   have h := si h; subst h
   exact pth Tryz.func58 [.cs (.ifc 88 [.b ob3, .sl .u64 ol4, .i .i64 ox5]), .r (.s (.b t36)), .cs (.ifc 95 [.b ob37]), .r (.s (.b t43)), .cs (.ifc 88 [.b ob3, .sl .u64 ol4, .i .i64 ox5]), .br false, .cs (.ifc 88 [.b ob3, .sl .u64 ol4, .i .i64 ox5]), .br false, .cs (.ifc 88 [.b ob3, .sl .u64 ol4, .i .i64 ox5]), .br false, .cs (.ifc 88 [.b ob3, .sl .u64 ol4, .i .i64 ox5]), .br true, .cs (.ifc 95 [.b ob37]), .br false, .cs (.ifc 95 [.b ob37]), .br true] (fun e => ai (op_e e4) (ai (soft_number_below.c A32) (ai (op_e e34) (ai (soft_infinite_below.c A38) (ai (op_e e4) (ai ff (ai (op_e e4) (ai ff (ai (op_e e4) (ai ff (ai (op_e e4) (ai tt (ai (op_e e34) (ai ff (ai (op_e e34) (ai tt e)))))))))))))))) (by kernel_rfl)
  ·obtain ⟨t44, A39, h⟩ := bnd h
   have h := si h; subst h
   exact pth Tryz.func58 [.cs (.ifc 88 [.b ob3, .sl .u64 ol4, .i .i64 ox5]), .r (.s (.b t36)), .cs (.ifc 94 [.b ob38]), .r (.s (.b t44)), .cs (.ifc 88 [.b ob3, .sl .u64 ol4, .i .i64 ox5]), .br false, .cs (.ifc 88 [.b ob3, .sl .u64 ol4, .i .i64 ox5]), .br false, .cs (.ifc 88 [.b ob3, .sl .u64 ol4, .i .i64 ox5]), .br false, .cs (.ifc 88 [.b ob3, .sl .u64 ol4, .i .i64 ox5]), .br true, .cs (.ifc 94 [.b ob38]), .br false, .cs (.ifc 94 [.b ob38]), .br false, .cs (.ifc 94 [.b ob38]), .br true] (fun e => ai (op_e e4) (ai (soft_number_below.c A32) (ai (op_e e35) (ai (soft_nought_below.c A39) (ai (op_e e4) (ai ff (ai (op_e e4) (ai ff (ai (op_e e4) (ai ff (ai (op_e e4) (ai tt (ai (op_e e35) (ai ff (ai (op_e e35) (ai ff (ai (op_e e35) (ai tt e)))))))))))))))))) (by kernel_rfl)
  ·obtain ⟨t45, A40, h⟩ := bnd h
   obtain ⟨bt46, A41, h⟩ := bnd h
   have h := si h; subst h
   exact pth Tryz.func58 [.cs (.ifc 88 [.b ob3, .sl .u64 ol4, .i .i64 ox5]), .r (.s (.b t36)), .cs (.ifc 88 [.b ob39, .sl .u64 ol40, .i .i64 ox41]), .r (.s (.b t45)), .cs (.ifc 88 [.b ob3, .sl .u64 ol4, .i .i64 ox5]), .br false, .cs (.ifc 88 [.b ob3, .sl .u64 ol4, .i .i64 ox5]), .br false, .cs (.ifc 88 [.b ob3, .sl .u64 ol4, .i .i64 ox5]), .br false, .cs (.ifc 88 [.b ob3, .sl .u64 ol4, .i .i64 ox5]), .br true, .cs (.ifc 88 [.b ob39, .sl .u64 ol40, .i .i64 ox41]), .br true, .r (.tu [.ag [.b bt46.1, .sl .u64 bt46.2.1, .i .i64 bt46.2.2.1], .s (.i .i64 bt46.2.2.2)])] (fun e => ai (op_e e4) (ai (soft_number_below.c A32) (ai (op_e e36) (ai (soft_number_below.c A40) (ai (op_e e4) (ai ff (ai (op_e e4) (ai ff (ai (op_e e4) (ai ff (ai (op_e e4) (ai tt (ai (op_e e36) (ai tt (ai (dyadic_Mul.c A41) e))))))))))))))) (by kernel_rfl)
def soft_Mul.f (k : Nat) (a0 : Int) (a1 : Int) (a2 : Int) : Option (Int × Int) := (soft_pair.f k a0 a1 a2).bind fun bt1 => (if bt1.2.2 = 0 then ((soft_times.f k bt1.1 bt1.2.1).bind fun t2 => ((soft_tell.f k a0 t2).bind fun bt3 => (some (bt3.1, bt3.2)))) else (some (0, bt1.2.2)))
theorem soft_Mul.mono : ∀ a0 a1 a2 k, LeO (soft_Mul.f k a0 a1 a2) (soft_Mul.f (k + 1) a0 a1 a2) := by
 intro a0 a1 a2 k
 unfold soft_Mul.f
 repeat' first
  | (with_reducible exact soft_pair.mono _ _ _ _)
  | (with_reducible exact soft_tell.mono _ _ _)
  | (with_reducible exact soft_times.mono _ _ _)
  | (with_reducible exact LeO.refl _)
  | (with_reducible exact LeO.none _)
  | (with_reducible refine LeO.ite ?_ ?_)
  | (with_reducible refine LeO.bind ?_ (fun _ => ?_))
theorem soft_Mul.c {k : Nat} {a0 : Int} {a1 : Int} {a2 : Int} {r : Int × Int} (h : soft_Mul.f k a0 a1 a2 = some r) : Con Tryz.prog Gw 18 [.s (.i .i64 a0), .s (.i .u64 a1), .s (.i .u64 a2)] (· = .tu [.s (.i .u64 r.1), .s (.i .i64 r.2)]) := by
 unfold soft_Mul.f at h
 obtain ⟨bt1, A1, h⟩ := bnd h
 rcases ite_e h with ⟨c2, h⟩ | ⟨c2, h⟩
 ·obtain ⟨t2, A3, h⟩ := bnd h
  obtain ⟨bt3, A4, h⟩ := bnd h
  have h := si h; subst h
  exact pth Tryz.func18 [.r (.tu [.s (.ifc (opT bt1.1) (opL bt1.1)), .s (.ifc (opT bt1.2.1) (opL bt1.2.1)), .s (.i .i64 bt1.2.2)]), .br false, .r (.s (.ifc (opT t2) (opL t2))), .r (.tu [.s (.i .u64 bt3.1), .s (.i .i64 bt3.2)])] (fun e => ai (soft_pair.c A1) (ai (n0 c2) (ai (soft_times.c A3) (ai (soft_tell.c A4) e)))) (by kernel_rfl)
 ·have h := si h; subst h
  exact pth Tryz.func18 [.r (.tu [.s (.ifc (opT bt1.1) (opL bt1.1)), .s (.ifc (opT bt1.2.1) (opL bt1.2.1)), .s (.i .i64 bt1.2.2)]), .br true] (fun e => ai (soft_pair.c A1) (ai (n1 c2) e)) (by kernel_rfl)
end Go.Proofs.YtokoadgahflafaaGreatDoor.PLib
