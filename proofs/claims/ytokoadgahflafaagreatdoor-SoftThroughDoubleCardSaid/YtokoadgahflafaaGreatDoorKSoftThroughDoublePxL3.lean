/- Functions of the program as plain Lean functions (definitions as the print's), and that the machine's calls do what they do (contracts 'X.c', by Px). Condition: math/bits' table is laid. -/
import Derived.Test.YtokoadgahflafaaGreatDoorKSoftThroughDoublePxBr
import Derived.Test.YtokoadgahflafaaGreatDoorKSoftThroughDoubleGM
import Derived.Test.YtokoadgahflafaaGreatDoorKSoftThroughDoublePxMul
import Derived.Test.YtokoadgahflafaaGreatDoorKSoftThroughDoublePxR0
import Derived.Test.YtokoadgahflafaaGreatDoorKSoftThroughDoublePxOp
import Derived.Test.YtokoadgahflafaaGreatDoorKSoftThroughDoublePxL0
import Derived.Test.YtokoadgahflafaaGreatDoorKSoftThroughDoublePxL1
import Derived.Test.YtokoadgahflafaaGreatDoorKSoftThroughDoublePxL2
set_option linter.unusedVariables false
namespace Go.Proofs.YtokoadgahflafaaGreatDoor.PLib
open Go Go.RowKit Go.Proofs.YtokoadgahflafaaGreatDoorW.PrintWords Go.Proofs.YtokoadgahflafaaGreatDoorW.PrintMore Go.Proofs.YtokoadgahflafaaGreatDoor.Given Go.Proofs.YtokoadgahflafaaGreatDoor.Px
def soft_over.f (a0 : Opd) (a1 : Opd) : Option (Opd) := opm a0 ((soft_nan_below.f).bind fun t6 => (opm a1 ((soft_nan_below.f).bind fun t12 => (some a1)) (fun ob7 => ((soft_infinite_below.f ob7).bind fun t13 => (some Opd.nan))) (fun ob8 => ((soft_nought_below.f ob8).bind fun t14 => (some Opd.nan))) (fun ob9 ol10 ox11 => ((soft_number_below.f ob9 ol10 ox11).bind fun t15 => (some Opd.nan))))) (fun ob1 => ((soft_infinite_below.f ob1).bind fun t16 => (opm a1 ((soft_nan_below.f).bind fun t22 => (some a1)) (fun ob17 => ((soft_infinite_below.f ob17).bind fun t23 => (some Opd.nan))) (fun ob18 => ((soft_nought_below.f ob18).bind fun t24 => (some (Opd.inf (t16 != t24))))) (fun ob19 ol20 ox21 => ((soft_number_below.f ob19 ol20 ox21).bind fun t25 => (some (Opd.inf (t16 != t25)))))))) (fun ob2 => ((soft_nought_below.f ob2).bind fun t26 => (opm a1 ((soft_nan_below.f).bind fun t32 => (some a1)) (fun ob27 => ((soft_infinite_below.f ob27).bind fun t33 => (some (Opd.nou (t26 != t33))))) (fun ob28 => ((soft_nought_below.f ob28).bind fun t34 => (some Opd.nan))) (fun ob29 ol30 ox31 => ((soft_number_below.f ob29 ol30 ox31).bind fun t35 => (some (Opd.nou (t26 != t35)))))))) (fun ob3 ol4 ox5 => ((soft_number_below.f ob3 ol4 ox5).bind fun t36 => (opm a1 ((soft_nan_below.f).bind fun t42 => (some a1)) (fun ob37 => ((soft_infinite_below.f ob37).bind fun t43 => (some (Opd.nou (t36 != t43))))) (fun ob38 => ((soft_nought_below.f ob38).bind fun t44 => (some (Opd.inf (t36 != t44))))) (fun ob39 ol40 ox41 => ((soft_number_below.f ob39 ol40 ox41).bind fun t45 => (some Opd.nan))))))
theorem soft_over.c {a0 : Opd} {a1 : Opd} {r : Opd} (h : soft_over.f a0 a1 = some r) : Con Tryz.prog Gw 60 [.s (.ifc (opT a0) (opL a0)), .s (.ifc (opT a1) (opL a1))] (· = .s (.ifc (opT r) (opL r))) := by
 unfold soft_over.f at h
 rcases opm_e h with ⟨e1, h⟩ | ⟨ob1, e2, h⟩ | ⟨ob2, e3, h⟩ | ⟨ob3, ol4, ox5, e4, h⟩
 ·obtain ⟨t6, A5, h⟩ := bnd h
  rcases opm_e h with ⟨e6, h⟩ | ⟨ob7, e7, h⟩ | ⟨ob8, e8, h⟩ | ⟨ob9, ol10, ox11, e9, h⟩
  ·obtain ⟨t12, A10, h⟩ := bnd h
   have h := si h; subst h
   exact pth Tryz.func60 [.cs (.ifc 144 []), .r (.s (.b t6)), .cs (.ifc 144 []), .r (.s (.b t12)), .cs (.ifc 144 []), .br true] (fun e => ai (op_e e1) (ai (soft_nan_below.c A5) (ai (op_e e6) (ai (soft_nan_below.c A10) (ai (op_e e6) (ai tt e)))))) (by kernel_rfl)
  ·obtain ⟨t13, A11, h⟩ := bnd h
   have h := si h; subst h
   exact pth Tryz.func60 [.cs (.ifc 144 []), .r (.s (.b t6)), .cs (.ifc 95 [.b ob7]), .r (.s (.b t13)), .cs (.ifc 95 [.b ob7]), .br false, .cs (.ifc 95 [.b ob7]), .br true, .cs (.ifc 144 []), .cs (.ifc 144 []), .br true, .br true] (fun e => ai (op_e e1) (ai (soft_nan_below.c A5) (ai (op_e e7) (ai (soft_infinite_below.c A11) (ai (op_e e7) (ai ff (ai (op_e e7) (ai tt (ai (op_e e1) (ai (op_e e1) (ai tt (ai tt e)))))))))))) (by kernel_rfl)
  ·obtain ⟨t14, A12, h⟩ := bnd h
   have h := si h; subst h
   exact pth Tryz.func60 [.cs (.ifc 144 []), .r (.s (.b t6)), .cs (.ifc 94 [.b ob8]), .r (.s (.b t14)), .cs (.ifc 94 [.b ob8]), .br false, .cs (.ifc 94 [.b ob8]), .br false, .cs (.ifc 94 [.b ob8]), .br true, .cs (.ifc 144 []), .cs (.ifc 144 []), .br true, .br true] (fun e => ai (op_e e1) (ai (soft_nan_below.c A5) (ai (op_e e8) (ai (soft_nought_below.c A12) (ai (op_e e8) (ai ff (ai (op_e e8) (ai ff (ai (op_e e8) (ai tt (ai (op_e e1) (ai (op_e e1) (ai tt (ai tt e)))))))))))))) (by kernel_rfl)
  ·obtain ⟨t15, A13, h⟩ := bnd h
   have h := si h; subst h
   exact pth Tryz.func60 [.cs (.ifc 144 []), .r (.s (.b t6)), .cs (.ifc 88 [.b ob9, .sl .u64 ol10, .i .i64 ox11]), .r (.s (.b t15)), .cs (.ifc 88 [.b ob9, .sl .u64 ol10, .i .i64 ox11]), .br false, .cs (.ifc 88 [.b ob9, .sl .u64 ol10, .i .i64 ox11]), .br false, .cs (.ifc 88 [.b ob9, .sl .u64 ol10, .i .i64 ox11]), .br false, .cs (.ifc 144 []), .br false, .cs (.ifc 144 []), .br false] (fun e => ai (op_e e1) (ai (soft_nan_below.c A5) (ai (op_e e9) (ai (soft_number_below.c A13) (ai (op_e e9) (ai ff (ai (op_e e9) (ai ff (ai (op_e e9) (ai ff (ai (op_e e1) (ai ff (ai (op_e e1) (ai ff e)))))))))))))) (by kernel_rfl)
 ·obtain ⟨t16, A14, h⟩ := bnd h
  rcases opm_e h with ⟨e15, h⟩ | ⟨ob17, e16, h⟩ | ⟨ob18, e17, h⟩ | ⟨ob19, ol20, ox21, e18, h⟩
  ·obtain ⟨t22, A19, h⟩ := bnd h
   have h := si h; subst h
   exact pth Tryz.func60 [.cs (.ifc 95 [.b ob1]), .r (.s (.b t16)), .cs (.ifc 144 []), .r (.s (.b t22)), .cs (.ifc 144 []), .br true] (fun e => ai (op_e e2) (ai (soft_infinite_below.c A14) (ai (op_e e15) (ai (soft_nan_below.c A19) (ai (op_e e15) (ai tt e)))))) (by kernel_rfl)
  ·obtain ⟨t23, A20, h⟩ := bnd h
   have h := si h; subst h
   exact pth Tryz.func60 [.cs (.ifc 95 [.b ob1]), .r (.s (.b t16)), .cs (.ifc 95 [.b ob17]), .r (.s (.b t23)), .cs (.ifc 95 [.b ob17]), .br false, .cs (.ifc 95 [.b ob17]), .br true, .cs (.ifc 95 [.b ob1]), .cs (.ifc 95 [.b ob1]), .br false, .br true] (fun e => ai (op_e e2) (ai (soft_infinite_below.c A14) (ai (op_e e16) (ai (soft_infinite_below.c A20) (ai (op_e e16) (ai ff (ai (op_e e16) (ai tt (ai (op_e e2) (ai (op_e e2) (ai ff (ai tt e)))))))))))) (by kernel_rfl)
  ·obtain ⟨t24, A21, h⟩ := bnd h
   have h := si h; subst h
   exact pth Tryz.func60 [.cs (.ifc 95 [.b ob1]), .r (.s (.b t16)), .cs (.ifc 94 [.b ob18]), .r (.s (.b t24)), .cs (.ifc 94 [.b ob18]), .br false, .cs (.ifc 94 [.b ob18]), .br false, .cs (.ifc 94 [.b ob18]), .br true, .cs (.ifc 95 [.b ob1]), .cs (.ifc 95 [.b ob1]), .br false, .br false] (fun e => ai (op_e e2) (ai (soft_infinite_below.c A14) (ai (op_e e17) (ai (soft_nought_below.c A21) (ai (op_e e17) (ai ff (ai (op_e e17) (ai ff (ai (op_e e17) (ai tt (ai (op_e e2) (ai (op_e e2) (ai ff (ai ff e)))))))))))))) (by kernel_rfl)
  ·obtain ⟨t25, A22, h⟩ := bnd h
   have h := si h; subst h
   exact pth Tryz.func60 [.cs (.ifc 95 [.b ob1]), .r (.s (.b t16)), .cs (.ifc 88 [.b ob19, .sl .u64 ol20, .i .i64 ox21]), .r (.s (.b t25)), .cs (.ifc 88 [.b ob19, .sl .u64 ol20, .i .i64 ox21]), .br false, .cs (.ifc 88 [.b ob19, .sl .u64 ol20, .i .i64 ox21]), .br false, .cs (.ifc 88 [.b ob19, .sl .u64 ol20, .i .i64 ox21]), .br false, .cs (.ifc 95 [.b ob1]), .br true] (fun e => ai (op_e e2) (ai (soft_infinite_below.c A14) (ai (op_e e18) (ai (soft_number_below.c A22) (ai (op_e e18) (ai ff (ai (op_e e18) (ai ff (ai (op_e e18) (ai ff (ai (op_e e2) (ai tt e)))))))))))) (by kernel_rfl)
 ·obtain ⟨t26, A23, h⟩ := bnd h
  rcases opm_e h with ⟨e24, h⟩ | ⟨ob27, e25, h⟩ | ⟨ob28, e26, h⟩ | ⟨ob29, ol30, ox31, e27, h⟩
  ·obtain ⟨t32, A28, h⟩ := bnd h
   have h := si h; subst h
   exact pth Tryz.func60 [.cs (.ifc 94 [.b ob2]), .r (.s (.b t26)), .cs (.ifc 144 []), .r (.s (.b t32)), .cs (.ifc 144 []), .br true] (fun e => ai (op_e e3) (ai (soft_nought_below.c A23) (ai (op_e e24) (ai (soft_nan_below.c A28) (ai (op_e e24) (ai tt e)))))) (by kernel_rfl)
  ·obtain ⟨t33, A29, h⟩ := bnd h
   have h := si h; subst h
   exact pth Tryz.func60 [.cs (.ifc 94 [.b ob2]), .r (.s (.b t26)), .cs (.ifc 95 [.b ob27]), .r (.s (.b t33)), .cs (.ifc 95 [.b ob27]), .br false, .cs (.ifc 95 [.b ob27]), .br true, .cs (.ifc 94 [.b ob2]), .cs (.ifc 94 [.b ob2]), .br false, .br false] (fun e => ai (op_e e3) (ai (soft_nought_below.c A23) (ai (op_e e25) (ai (soft_infinite_below.c A29) (ai (op_e e25) (ai ff (ai (op_e e25) (ai tt (ai (op_e e3) (ai (op_e e3) (ai ff (ai ff e)))))))))))) (by kernel_rfl)
  ·obtain ⟨t34, A30, h⟩ := bnd h
   have h := si h; subst h
   exact pth Tryz.func60 [.cs (.ifc 94 [.b ob2]), .r (.s (.b t26)), .cs (.ifc 94 [.b ob28]), .r (.s (.b t34)), .cs (.ifc 94 [.b ob28]), .br false, .cs (.ifc 94 [.b ob28]), .br false, .cs (.ifc 94 [.b ob28]), .br true, .cs (.ifc 94 [.b ob2]), .cs (.ifc 94 [.b ob2]), .br false, .br true] (fun e => ai (op_e e3) (ai (soft_nought_below.c A23) (ai (op_e e26) (ai (soft_nought_below.c A30) (ai (op_e e26) (ai ff (ai (op_e e26) (ai ff (ai (op_e e26) (ai tt (ai (op_e e3) (ai (op_e e3) (ai ff (ai tt e)))))))))))))) (by kernel_rfl)
  ·obtain ⟨t35, A31, h⟩ := bnd h
   have h := si h; subst h
   exact pth Tryz.func60 [.cs (.ifc 94 [.b ob2]), .r (.s (.b t26)), .cs (.ifc 88 [.b ob29, .sl .u64 ol30, .i .i64 ox31]), .r (.s (.b t35)), .cs (.ifc 88 [.b ob29, .sl .u64 ol30, .i .i64 ox31]), .br false, .cs (.ifc 88 [.b ob29, .sl .u64 ol30, .i .i64 ox31]), .br false, .cs (.ifc 88 [.b ob29, .sl .u64 ol30, .i .i64 ox31]), .br false, .cs (.ifc 94 [.b ob2]), .br false, .cs (.ifc 94 [.b ob2]), .br true] (fun e => ai (op_e e3) (ai (soft_nought_below.c A23) (ai (op_e e27) (ai (soft_number_below.c A31) (ai (op_e e27) (ai ff (ai (op_e e27) (ai ff (ai (op_e e27) (ai ff (ai (op_e e3) (ai ff (ai (op_e e3) (ai tt e)))))))))))))) (by kernel_rfl)
 ·obtain ⟨t36, A32, h⟩ := bnd h
  rcases opm_e h with ⟨e33, h⟩ | ⟨ob37, e34, h⟩ | ⟨ob38, e35, h⟩ | ⟨ob39, ol40, ox41, e36, h⟩
  ·obtain ⟨t42, A37, h⟩ := bnd h
   have h := si h; subst h
   exact pth Tryz.func60 [.cs (.ifc 88 [.b ob3, .sl .u64 ol4, .i .i64 ox5]), .r (.s (.b t36)), .cs (.ifc 144 []), .r (.s (.b t42)), .cs (.ifc 144 []), .br true] (fun e => ai (op_e e4) (ai (soft_number_below.c A32) (ai (op_e e33) (ai (soft_nan_below.c A37) (ai (op_e e33) (ai tt e)))))) (by kernel_rfl)
  ·obtain ⟨t43, A38, h⟩ := bnd h
   have h := si h; subst h
   exact pth Tryz.func60 [.cs (.ifc 88 [.b ob3, .sl .u64 ol4, .i .i64 ox5]), .r (.s (.b t36)), .cs (.ifc 95 [.b ob37]), .r (.s (.b t43)), .cs (.ifc 95 [.b ob37]), .br false, .cs (.ifc 95 [.b ob37]), .br true, .cs (.ifc 88 [.b ob3, .sl .u64 ol4, .i .i64 ox5]), .cs (.ifc 88 [.b ob3, .sl .u64 ol4, .i .i64 ox5]), .br false, .br false] (fun e => ai (op_e e4) (ai (soft_number_below.c A32) (ai (op_e e34) (ai (soft_infinite_below.c A38) (ai (op_e e34) (ai ff (ai (op_e e34) (ai tt (ai (op_e e4) (ai (op_e e4) (ai ff (ai ff e)))))))))))) (by kernel_rfl)
  ·obtain ⟨t44, A39, h⟩ := bnd h
   have h := si h; subst h
   exact pth Tryz.func60 [.cs (.ifc 88 [.b ob3, .sl .u64 ol4, .i .i64 ox5]), .r (.s (.b t36)), .cs (.ifc 94 [.b ob38]), .r (.s (.b t44)), .cs (.ifc 94 [.b ob38]), .br false, .cs (.ifc 94 [.b ob38]), .br false, .cs (.ifc 94 [.b ob38]), .br true, .cs (.ifc 88 [.b ob3, .sl .u64 ol4, .i .i64 ox5]), .cs (.ifc 88 [.b ob3, .sl .u64 ol4, .i .i64 ox5]), .br false, .br false] (fun e => ai (op_e e4) (ai (soft_number_below.c A32) (ai (op_e e35) (ai (soft_nought_below.c A39) (ai (op_e e35) (ai ff (ai (op_e e35) (ai ff (ai (op_e e35) (ai tt (ai (op_e e4) (ai (op_e e4) (ai ff (ai ff e)))))))))))))) (by kernel_rfl)
  ·obtain ⟨t45, A40, h⟩ := bnd h
   have h := si h; subst h
   exact pth Tryz.func60 [.cs (.ifc 88 [.b ob3, .sl .u64 ol4, .i .i64 ox5]), .r (.s (.b t36)), .cs (.ifc 88 [.b ob39, .sl .u64 ol40, .i .i64 ox41]), .r (.s (.b t45)), .cs (.ifc 88 [.b ob39, .sl .u64 ol40, .i .i64 ox41]), .br false, .cs (.ifc 88 [.b ob39, .sl .u64 ol40, .i .i64 ox41]), .br false, .cs (.ifc 88 [.b ob39, .sl .u64 ol40, .i .i64 ox41]), .br false, .cs (.ifc 88 [.b ob3, .sl .u64 ol4, .i .i64 ox5]), .br false, .cs (.ifc 88 [.b ob3, .sl .u64 ol4, .i .i64 ox5]), .br false] (fun e => ai (op_e e4) (ai (soft_number_below.c A32) (ai (op_e e36) (ai (soft_number_below.c A40) (ai (op_e e36) (ai ff (ai (op_e e36) (ai ff (ai (op_e e36) (ai ff (ai (op_e e4) (ai ff (ai (op_e e4) (ai ff e)))))))))))))) (by kernel_rfl)
def soft_Fma.f (k : Nat) (a0 : Int) (a1 : Int) (a2 : Int) (a3 : Int) : Option (Int × Int) := (soft_pair.f k a0 a1 a2).bind fun bt1 => ((soft_read.f k a0 a3).bind fun bt2 => (if bt1.2.2 = 0 then (if bt2.2 = 0 then ((soft_times.f k bt1.1 bt1.2.1).bind fun t3 => ((soft_plus.f k t3 bt2.1).bind fun t4 => ((soft_tell.f k a0 t4).bind fun bt5 => (some (bt5.1, bt5.2))))) else (some (0, bt2.2))) else (if bt2.2 = 0 then (some (0, bt1.2.2)) else (if bt2.2 < bt1.2.2 then (some (0, bt2.2)) else (some (0, bt1.2.2))))))
theorem soft_Fma.mono : ∀ a0 a1 a2 a3 k, LeO (soft_Fma.f k a0 a1 a2 a3) (soft_Fma.f (k + 1) a0 a1 a2 a3) := by
 intro a0 a1 a2 a3 k
 unfold soft_Fma.f
 repeat' first
  | (with_reducible exact soft_pair.mono _ _ _ _)
  | (with_reducible exact soft_plus.mono _ _ _)
  | (with_reducible exact soft_read.mono _ _ _)
  | (with_reducible exact soft_tell.mono _ _ _)
  | (with_reducible exact soft_times.mono _ _ _)
  | (with_reducible exact LeO.refl _)
  | (with_reducible exact LeO.none _)
  | (with_reducible refine LeO.ite ?_ ?_)
  | (with_reducible refine LeO.bind ?_ (fun _ => ?_))
theorem soft_Fma.c {k : Nat} {a0 : Int} {a1 : Int} {a2 : Int} {a3 : Int} {r : Int × Int} (h : soft_Fma.f k a0 a1 a2 a3 = some r) : Con Tryz.prog Gw 23 [.s (.i .i64 a0), .s (.i .u64 a1), .s (.i .u64 a2), .s (.i .u64 a3)] (· = .tu [.s (.i .u64 r.1), .s (.i .i64 r.2)]) := by
 unfold soft_Fma.f at h
 obtain ⟨bt1, A1, h⟩ := bnd h
 obtain ⟨bt2, A2, h⟩ := bnd h
 rcases ite_e h with ⟨c3, h⟩ | ⟨c3, h⟩
 ·rcases ite_e h with ⟨c4, h⟩ | ⟨c4, h⟩
  ·obtain ⟨t3, A5, h⟩ := bnd h
   obtain ⟨t4, A6, h⟩ := bnd h
   obtain ⟨bt5, A7, h⟩ := bnd h
   have h := si h; subst h
   exact pth Tryz.func23 [.r (.tu [.s (.ifc (opT bt1.1) (opL bt1.1)), .s (.ifc (opT bt1.2.1) (opL bt1.2.1)), .s (.i .i64 bt1.2.2)]), .r (.tu [.s (.ifc (opT bt2.1) (opL bt2.1)), .s (.i .i64 bt2.2)]), .br true, .br true, .br true, .br true, .br true, .br true, .br false, .r (.s (.ifc (opT t3) (opL t3))), .r (.s (.ifc (opT t4) (opL t4))), .r (.tu [.s (.i .u64 bt5.1), .s (.i .i64 bt5.2)])] (fun e => ai (soft_pair.c A1) (ai (soft_read.c A2) (ai (q1 c3) (ai (q1 c3) (ai (q1 c3) (ai (q1 c3) (ai (q1 c3) (ai tt (ai (n0 c4) (ai (soft_times.c A5) (ai (soft_plus.c A6) (ai (soft_tell.c A7) e)))))))))))) (by kernel_rfl)
  ·have h := si h; subst h
   exact pth Tryz.func23 [.r (.tu [.s (.ifc (opT bt1.1) (opL bt1.1)), .s (.ifc (opT bt1.2.1) (opL bt1.2.1)), .s (.i .i64 bt1.2.2)]), .r (.tu [.s (.ifc (opT bt2.1) (opL bt2.1)), .s (.i .i64 bt2.2)]), .br true, .br true, .br true, .br true, .br true, .br true, .br true] (fun e => ai (soft_pair.c A1) (ai (soft_read.c A2) (ai (q1 c3) (ai (q1 c3) (ai (q1 c3) (ai (q1 c3) (ai (q1 c3) (ai tt (ai (n1 c4) e))))))))) (by kernel_rfl)
 ·rcases ite_e h with ⟨c8, h⟩ | ⟨c8, h⟩
  ·have h := si h; subst h
   exact pth Tryz.func23 [.r (.tu [.s (.ifc (opT bt1.1) (opL bt1.1)), .s (.ifc (opT bt1.2.1) (opL bt1.2.1)), .s (.i .i64 bt1.2.2)]), .r (.tu [.s (.ifc (opT bt2.1) (opL bt2.1)), .s (.i .i64 bt2.2)]), .br false, .br false, .br false, .br false, .br false, .br false, .br false, .br false, .br false, .br false, .br true] (fun e => ai (soft_pair.c A1) (ai (soft_read.c A2) (ai (q0 c3) (ai (q0 c3) (ai (q0 c3) (ai (n0 c8) (ai (n0 c8) (ai (n0 c8) (ai (q0 c3) (ai (n0 c8) (ai (q0 c3) (ai ff (ai (n1 c3) e))))))))))))) (by kernel_rfl)
  ·rcases ite_e h with ⟨c9, h⟩ | ⟨c9, h⟩
   ·have h := si h; subst h
    exact pth Tryz.func23 [.r (.tu [.s (.ifc (opT bt1.1) (opL bt1.1)), .s (.ifc (opT bt1.2.1) (opL bt1.2.1)), .s (.i .i64 bt1.2.2)]), .r (.tu [.s (.ifc (opT bt2.1) (opL bt2.1)), .s (.i .i64 bt2.2)]), .br false, .br false, .br false, .br true, .br true, .br true, .br false, .br true, .br false, .br true, .br true] (fun e => ai (soft_pair.c A1) (ai (soft_read.c A2) (ai (q0 c3) (ai (q0 c3) (ai (q0 c3) (ai (n1 c8) (ai (n1 c8) (ai (n1 c8) (ai (q0 c3) (ai (n1 c8) (ai (q0 c3) (ai (d1 c9) (ai (n1 c8) e))))))))))))) (by kernel_rfl)
   ·have h := si h; subst h
    exact pth Tryz.func23 [.r (.tu [.s (.ifc (opT bt1.1) (opL bt1.1)), .s (.ifc (opT bt1.2.1) (opL bt1.2.1)), .s (.i .i64 bt1.2.2)]), .r (.tu [.s (.ifc (opT bt2.1) (opL bt2.1)), .s (.i .i64 bt2.2)]), .br false, .br false, .br false, .br true, .br true, .br true, .br false, .br true, .br false, .br false, .br true] (fun e => ai (soft_pair.c A1) (ai (soft_read.c A2) (ai (q0 c3) (ai (q0 c3) (ai (q0 c3) (ai (n1 c8) (ai (n1 c8) (ai (n1 c8) (ai (q0 c3) (ai (n1 c8) (ai (q0 c3) (ai (d0 c9) (ai (n1 c3) e))))))))))))) (by kernel_rfl)
def round_long.f (a0_0 : Bool) (l0_1 : List Int) (a0_2 : Int) : Option (Bool) := some (decide ((l0_1.length : Int) > 4096))
theorem round_long.c {a0_0 : Bool} {l0_1 : List Int} {a0_2 : Int} {r : Bool} (h : round_long.f a0_0 l0_1 a0_2 = some r) : Con Tryz.prog Gw 116 [.ag [.b a0_0, .sl .u64 l0_1, .i .i64 a0_2]] (· = .s (.b r)) := by
 unfold round_long.f at h
 have h := si h; subst h
 exact pth Tryz.func116 [] (fun e => e) (by kernel_rfl)
def round_sticky.f (l0 : List Int) (l1 : List Int) : Option (List Int) := (nat_Shl.f l0 1).bind fun bt1 => (if (l1.length : Int) > 0 then ((nat_Word.f 1).bind fun t2 => ((nat_Add.f bt1.1 t2).bind fun bt3 => (some bt3.1))) else (some bt1.1))
theorem round_sticky.c {l0 : List Int} {l1 : List Int} {r : List Int} (h : round_sticky.f l0 l1 = some r) : Con Tryz.prog Gw 121 [.s (.sl .u64 l0), .s (.sl .u64 l1)] (· = .s (.sl .u64 r)) := by
 unfold round_sticky.f at h
 obtain ⟨bt1, A1, h⟩ := bnd h
 rcases ite_e h with ⟨c2, h⟩ | ⟨c2, h⟩
 ·obtain ⟨t2, A3, h⟩ := bnd h
  obtain ⟨bt3, A4, h⟩ := bnd h
  have h := si h; subst h
  exact pth Tryz.func121 [.r (.tu [.s (.sl .u64 bt1.1), .s (.i .i64 bt1.2)]), .br true, .r (.s (.sl .u64 t2)), .r (.tu [.s (.sl .u64 bt3.1), .s (.i .i64 bt3.2)])] (fun e => ai (nat_Shl.c A1) (ai (d1 c2) (ai (nat_Word.c A3) (ai (nat_Add.c A4) e)))) (by kernel_rfl)
 ·have h := si h; subst h
  exact pth Tryz.func121 [.r (.tu [.s (.sl .u64 bt1.1), .s (.i .i64 bt1.2)]), .br false] (fun e => ai (nat_Shl.c A1) (ai (d0 c2) e)) (by kernel_rfl)
def round_Quotient.f (k : Nat) (a0 : Int) (a1_0 : Bool) (l1_1 : List Int) (a1_2 : Int) (a2_0 : Bool) (l2_1 : List Int) (a2_2 : Int) : Option (Int × Int) := (round_of.f a0).bind fun bt1 => (if (bt1.1 == 0 && (bt1.2.1 == 0 && (bt1.2.2 == 0))) = true then (some (0, 1)) else ((dyadic_Form.f k a1_0 l1_1 a1_2).bind fun t2 => (if t2 = true then ((dyadic_Form.f k a2_0 l2_1 a2_2).bind fun t3 => (if t3 = true then (if (l2_1.length : Int) = 0 then (some (0, 4)) else ((round_long.f a1_0 l1_1 a1_2).bind fun t4 => (if t4 = true then (some (0, 5)) else ((round_long.f a2_0 l2_1 a2_2).bind fun t5 => (if t5 = true then (some (0, 5)) else (if (l1_1.length : Int) = 0 then (some (0, 0)) else ((nat_Bits.f l2_1).bind fun t6 => ((nat_Bits.f l1_1).bind fun t7 => ((nat_Shl.f l1_1 (mx 0 (wrap64 ((wrap64 ((wrap64 (bt1.1 + 3)) + t6)) - t7)))).bind fun bt8 => ((natdiv_QuoRem.f bt8.1 l2_1).bind fun bt9 => ((round_sticky.f bt9.1 bt9.2.1).bind fun t10 => ((round_widths_size.f k bt1.1 bt1.2.1 bt1.2.2 t10 (wrap64 ((wrap64 ((wrap64 (a1_2 - a2_2)) - (mx 0 (wrap64 ((wrap64 ((wrap64 (bt1.1 + 3)) + t6)) - t7))))) - 1))).bind fun t11 => ((round_widths_signed.f bt1.1 bt1.2.1 bt1.2.2 (a1_0 != a2_0) t11).bind fun t12 => (some (t12, 0))))))))))))))) else (some (0, 2)))) else (some (0, 2)))))
theorem round_Quotient.mono : ∀ a0 a1 a2 a3 a4 a5 a6 k, LeO (round_Quotient.f k a0 a1 a2 a3 a4 a5 a6) (round_Quotient.f (k + 1) a0 a1 a2 a3 a4 a5 a6) := by
 intro a0 a1 a2 a3 a4 a5 a6 k
 unfold round_Quotient.f
 repeat' first
  | (with_reducible exact dyadic_Form.mono _ _ _ _)
  | (with_reducible exact round_widths_size.mono _ _ _ _ _ _)
  | (with_reducible exact LeO.refl _)
  | (with_reducible exact LeO.none _)
  | (with_reducible refine LeO.ite ?_ ?_)
  | (with_reducible refine LeO.bind ?_ (fun _ => ?_))
theorem round_Quotient.c {k : Nat} {a0 : Int} {a1_0 : Bool} {l1_1 : List Int} {a1_2 : Int} {a2_0 : Bool} {l2_1 : List Int} {a2_2 : Int} {r : Int × Int} (h : round_Quotient.f k a0 a1_0 l1_1 a1_2 a2_0 l2_1 a2_2 = some r) : Con Tryz.prog Gw 59 [.s (.i .i64 a0), .ag [.b a1_0, .sl .u64 l1_1, .i .i64 a1_2], .ag [.b a2_0, .sl .u64 l2_1, .i .i64 a2_2]] (· = .tu [.s (.i .u64 r.1), .s (.i .i64 r.2)]) := by
 unfold round_Quotient.f at h
 obtain ⟨bt1, A1, h⟩ := bnd h
 rcases ite_e h with ⟨c2, h⟩ | ⟨c2, h⟩
 ·have h := si h; subst h
  exact pth Tryz.func59 [.r (.ag [.i .i64 bt1.1, .i .i64 bt1.2.1, .i .i64 bt1.2.2]), .br true] (fun e => ai (round_of.c A1) (ai c2 e)) (by kernel_rfl)
 ·obtain ⟨t2, A3, h⟩ := bnd h
  rcases ite_e h with ⟨c4, h⟩ | ⟨c4, h⟩
  ·obtain ⟨t3, A5, h⟩ := bnd h
   rcases ite_e h with ⟨c6, h⟩ | ⟨c6, h⟩
   ·rcases ite_e h with ⟨c7, h⟩ | ⟨c7, h⟩
    ·have h := si h; subst h
     exact pth Tryz.func59 [.r (.ag [.i .i64 bt1.1, .i .i64 bt1.2.1, .i .i64 bt1.2.2]), .br false, .r (.s (.b t2)), .br false, .br false, .r (.s (.b t3)), .br false, .br false, .br false, .br true] (fun e => ai (round_of.c A1) (ai (z0 c2) (ai (dyadic_Form.c A3) (ai (nt1 c4) (ai (nt1 c4) (ai (dyadic_Form.c A5) (ai (nt1 c4) (ai (nt1 c4) (ai (nt1 c6) (ai (q1 c7) e)))))))))) (by kernel_rfl)
    ·obtain ⟨t4, A8, h⟩ := bnd h
     rcases ite_e h with ⟨c9, h⟩ | ⟨c9, h⟩
     ·have h := si h; subst h
      exact pth Tryz.func59 [.r (.ag [.i .i64 bt1.1, .i .i64 bt1.2.1, .i .i64 bt1.2.2]), .br false, .r (.s (.b t2)), .br false, .br false, .r (.s (.b t3)), .br false, .br false, .br false, .br false, .r (.s (.b t4)), .br true, .br true, .br true, .br true] (fun e => ai (round_of.c A1) (ai (z0 c2) (ai (dyadic_Form.c A3) (ai (nt1 c4) (ai (nt1 c4) (ai (dyadic_Form.c A5) (ai (nt1 c4) (ai (nt1 c4) (ai (nt1 c6) (ai (q0 c7) (ai (round_long.c A8) (ai c9 (ai c9 (ai c9 (ai tt e))))))))))))))) (by kernel_rfl)
     ·obtain ⟨t5, A10, h⟩ := bnd h
      rcases ite_e h with ⟨c11, h⟩ | ⟨c11, h⟩
      ·have h := si h; subst h
       exact pth Tryz.func59 [.r (.ag [.i .i64 bt1.1, .i .i64 bt1.2.1, .i .i64 bt1.2.2]), .br false, .r (.s (.b t2)), .br false, .br false, .r (.s (.b t3)), .br false, .br false, .br false, .br false, .r (.s (.b t4)), .br false, .br false, .r (.s (.b t5)), .br false, .br true] (fun e => ai (round_of.c A1) (ai (z0 c2) (ai (dyadic_Form.c A3) (ai (nt1 c4) (ai (nt1 c4) (ai (dyadic_Form.c A5) (ai (nt1 c4) (ai (nt1 c4) (ai (nt1 c6) (ai (q0 c7) (ai (round_long.c A8) (ai (z0 c9) (ai (z0 c9) (ai (round_long.c A10) (ai (z0 c9) (ai c11 e)))))))))))))))) (by kernel_rfl)
      ·rcases ite_e h with ⟨c12, h⟩ | ⟨c12, h⟩
       ·have h := si h; subst h
        exact pth Tryz.func59 [.r (.ag [.i .i64 bt1.1, .i .i64 bt1.2.1, .i .i64 bt1.2.2]), .br false, .r (.s (.b t2)), .br false, .br false, .r (.s (.b t3)), .br false, .br false, .br false, .br false, .r (.s (.b t4)), .br false, .br false, .r (.s (.b t5)), .br false, .br false, .br true] (fun e => ai (round_of.c A1) (ai (z0 c2) (ai (dyadic_Form.c A3) (ai (nt1 c4) (ai (nt1 c4) (ai (dyadic_Form.c A5) (ai (nt1 c4) (ai (nt1 c4) (ai (nt1 c6) (ai (q0 c7) (ai (round_long.c A8) (ai (z0 c9) (ai (z0 c9) (ai (round_long.c A10) (ai (z0 c9) (ai (z0 c11) (ai (q1 c12) e))))))))))))))))) (by kernel_rfl)
       ·obtain ⟨t6, A13, h⟩ := bnd h
        obtain ⟨t7, A14, h⟩ := bnd h
        obtain ⟨bt8, A15, h⟩ := bnd h
        obtain ⟨bt9, A16, h⟩ := bnd h
        obtain ⟨t10, A17, h⟩ := bnd h
        obtain ⟨t11, A18, h⟩ := bnd h
        obtain ⟨t12, A19, h⟩ := bnd h
        have h := si h; subst h
        exact pth Tryz.func59 [.r (.ag [.i .i64 bt1.1, .i .i64 bt1.2.1, .i .i64 bt1.2.2]), .br false, .r (.s (.b t2)), .br false, .br false, .r (.s (.b t3)), .br false, .br false, .br false, .br false, .r (.s (.b t4)), .br false, .br false, .r (.s (.b t5)), .br false, .br false, .br false, .r (.s (.i .i64 t6)), .r (.s (.i .i64 t7)), .r (.tu [.s (.sl .u64 bt8.1), .s (.i .i64 bt8.2)]), .r (.tu [.s (.sl .u64 bt9.1), .s (.sl .u64 bt9.2.1), .s (.i .i64 bt9.2.2)]), .r (.s (.sl .u64 t10)), .r (.s (.i .u64 t11)), .r (.s (.i .u64 t12))] (fun e => ai (round_of.c A1) (ai (z0 c2) (ai (dyadic_Form.c A3) (ai (nt1 c4) (ai (nt1 c4) (ai (dyadic_Form.c A5) (ai (nt1 c4) (ai (nt1 c4) (ai (nt1 c6) (ai (q0 c7) (ai (round_long.c A8) (ai (z0 c9) (ai (z0 c9) (ai (round_long.c A10) (ai (z0 c9) (ai (z0 c11) (ai (q0 c12) (ai (nat_Bits.c A13) (ai (nat_Bits.c A14) (ai (nat_Shl.c A15) (ai (natdiv_QuoRem.c A16) (ai (round_sticky.c A17) (ai (round_widths_size.c A18) (ai (round_widths_signed.c A19) e)))))))))))))))))))))))) (by kernel_rfl)
   ·have h := si h; subst h
    exact pth Tryz.func59 [.r (.ag [.i .i64 bt1.1, .i .i64 bt1.2.1, .i .i64 bt1.2.2]), .br false, .r (.s (.b t2)), .br false, .br false, .r (.s (.b t3)), .br false, .br false, .br true] (fun e => ai (round_of.c A1) (ai (z0 c2) (ai (dyadic_Form.c A3) (ai (nt1 c4) (ai (nt1 c4) (ai (dyadic_Form.c A5) (ai (nt1 c4) (ai (nt1 c4) (ai (nt0 (z0 c6)) e))))))))) (by kernel_rfl)
  ·have h := si h; subst h
   exact pth Tryz.func59 [.r (.ag [.i .i64 bt1.1, .i .i64 bt1.2.1, .i .i64 bt1.2.2]), .br false, .r (.s (.b t2)), .br true, .br true, .br true, .br true, .br true] (fun e => ai (round_of.c A1) (ai (z0 c2) (ai (dyadic_Form.c A3) (ai (nt0 (z0 c4)) (ai (nt0 (z0 c4)) (ai (nt0 (z0 c4)) (ai (nt0 (z0 c4)) (ai tt e)))))))) (by kernel_rfl)
def round_Root.f (k : Nat) (a0 : Int) (a1_0 : Bool) (l1_1 : List Int) (a1_2 : Int) : Option (Int × Int) := (round_of.f a0).bind fun bt1 => (if (bt1.1 == 0 && (bt1.2.1 == 0 && (bt1.2.2 == 0))) = true then (some (0, 1)) else ((dyadic_Form.f k a1_0 l1_1 a1_2).bind fun t2 => (if t2 = true then (if a1_0 = true then (some (0, 3)) else ((round_long.f a1_0 l1_1 a1_2).bind fun t3 => (if t3 = true then (some (0, 5)) else (if (l1_1.length : Int) = 0 then (some (0, 0)) else ((nat_Bits.f l1_1).bind fun t4 => (if (Int.tmod (wrap64 (a1_2 - (mx 0 (wrap64 ((wrap64 ((wrap64 (2 * bt1.1)) + 6)) - t4))))) 2) = 0 then ((nat_Shl.f l1_1 (mx 0 (wrap64 ((wrap64 ((wrap64 (2 * bt1.1)) + 6)) - t4)))).bind fun bt5 => ((natdiv_Root.f k bt5.1).bind fun bt6 => ((round_sticky.f bt6.1 bt6.2.1).bind fun t7 => ((round_widths_size.f k bt1.1 bt1.2.1 bt1.2.2 t7 (wrap64 ((wrap64 (Int.tdiv (wrap64 (a1_2 - (mx 0 (wrap64 ((wrap64 ((wrap64 (2 * bt1.1)) + 6)) - t4))))) 2)) - 1))).bind fun t8 => (some (t8, 0)))))) else ((nat_Shl.f l1_1 (wrap64 ((mx 0 (wrap64 ((wrap64 ((wrap64 (2 * bt1.1)) + 6)) - t4))) + 1))).bind fun bt9 => ((natdiv_Root.f k bt9.1).bind fun bt10 => ((round_sticky.f bt10.1 bt10.2.1).bind fun t11 => ((round_widths_size.f k bt1.1 bt1.2.1 bt1.2.2 t11 (wrap64 ((wrap64 (Int.tdiv (wrap64 (a1_2 - (wrap64 ((mx 0 (wrap64 ((wrap64 ((wrap64 (2 * bt1.1)) + 6)) - t4))) + 1)))) 2)) - 1))).bind fun t12 => (some (t12, 0)))))))))))) else (some (0, 2)))))
theorem round_Root.mono : ∀ a0 a1 a2 a3 k, LeO (round_Root.f k a0 a1 a2 a3) (round_Root.f (k + 1) a0 a1 a2 a3) := by
 intro a0 a1 a2 a3 k
 unfold round_Root.f
 repeat' first
  | (with_reducible exact dyadic_Form.mono _ _ _ _)
  | (with_reducible exact natdiv_Root.mono _ _)
  | (with_reducible exact round_widths_size.mono _ _ _ _ _ _)
  | (with_reducible exact LeO.refl _)
  | (with_reducible exact LeO.none _)
  | (with_reducible refine LeO.ite ?_ ?_)
  | (with_reducible refine LeO.bind ?_ (fun _ => ?_))
theorem round_Root.c {k : Nat} {a0 : Int} {a1_0 : Bool} {l1_1 : List Int} {a1_2 : Int} {r : Int × Int} (h : round_Root.f k a0 a1_0 l1_1 a1_2 = some r) : Con Tryz.prog Gw 63 [.s (.i .i64 a0), .ag [.b a1_0, .sl .u64 l1_1, .i .i64 a1_2]] (· = .tu [.s (.i .u64 r.1), .s (.i .i64 r.2)]) := by
 unfold round_Root.f at h
 obtain ⟨bt1, A1, h⟩ := bnd h
 rcases ite_e h with ⟨c2, h⟩ | ⟨c2, h⟩
 ·have h := si h; subst h
  exact pth Tryz.func63 [.r (.ag [.i .i64 bt1.1, .i .i64 bt1.2.1, .i .i64 bt1.2.2]), .br true] (fun e => ai (round_of.c A1) (ai c2 e)) (by kernel_rfl)
 ·obtain ⟨t2, A3, h⟩ := bnd h
  rcases ite_e h with ⟨c4, h⟩ | ⟨c4, h⟩
  ·rcases ite_e h with ⟨c5, h⟩ | ⟨c5, h⟩
   ·have h := si h; subst h
    exact pth Tryz.func63 [.r (.ag [.i .i64 bt1.1, .i .i64 bt1.2.1, .i .i64 bt1.2.2]), .br false, .r (.s (.b t2)), .br false, .br true] (fun e => ai (round_of.c A1) (ai (z0 c2) (ai (dyadic_Form.c A3) (ai (nt1 c4) (ai c5 e))))) (by kernel_rfl)
   ·obtain ⟨t3, A6, h⟩ := bnd h
    rcases ite_e h with ⟨c7, h⟩ | ⟨c7, h⟩
    ·have h := si h; subst h
     exact pth Tryz.func63 [.r (.ag [.i .i64 bt1.1, .i .i64 bt1.2.1, .i .i64 bt1.2.2]), .br false, .r (.s (.b t2)), .br false, .br false, .r (.s (.b t3)), .br true] (fun e => ai (round_of.c A1) (ai (z0 c2) (ai (dyadic_Form.c A3) (ai (nt1 c4) (ai (z0 c5) (ai (round_long.c A6) (ai c7 e))))))) (by kernel_rfl)
    ·rcases ite_e h with ⟨c8, h⟩ | ⟨c8, h⟩
     ·have h := si h; subst h
      exact pth Tryz.func63 [.r (.ag [.i .i64 bt1.1, .i .i64 bt1.2.1, .i .i64 bt1.2.2]), .br false, .r (.s (.b t2)), .br false, .br false, .r (.s (.b t3)), .br false, .br true] (fun e => ai (round_of.c A1) (ai (z0 c2) (ai (dyadic_Form.c A3) (ai (nt1 c4) (ai (z0 c5) (ai (round_long.c A6) (ai (z0 c7) (ai (q1 c8) e)))))))) (by kernel_rfl)
     ·obtain ⟨t4, A9, h⟩ := bnd h
      rcases ite_e h with ⟨c10, h⟩ | ⟨c10, h⟩
      ·obtain ⟨bt5, A11, h⟩ := bnd h
       obtain ⟨bt6, A12, h⟩ := bnd h
       obtain ⟨t7, A13, h⟩ := bnd h
       obtain ⟨t8, A14, h⟩ := bnd h
       have h := si h; subst h
       exact pth Tryz.func63 [.r (.ag [.i .i64 bt1.1, .i .i64 bt1.2.1, .i .i64 bt1.2.2]), .br false, .r (.s (.b t2)), .br false, .br false, .r (.s (.b t3)), .br false, .br false, .r (.s (.i .i64 t4)), .br false, .r (.tu [.s (.sl .u64 bt5.1), .s (.i .i64 bt5.2)]), .r (.tu [.s (.sl .u64 bt6.1), .s (.sl .u64 bt6.2.1), .s (.i .i64 bt6.2.2)]), .r (.s (.sl .u64 t7)), .r (.s (.i .u64 t8))] (fun e => ai (round_of.c A1) (ai (z0 c2) (ai (dyadic_Form.c A3) (ai (nt1 c4) (ai (z0 c5) (ai (round_long.c A6) (ai (z0 c7) (ai (q0 c8) (ai (nat_Bits.c A9) (ai (by decide : (2 : Int) ≠ 0) (ai (n0 c10) (ai (nat_Shl.c A11) (ai (natdiv_Root.c A12) (ai (round_sticky.c A13) (ai (by decide : (2 : Int) ≠ 0) (ai (round_widths_size.c A14) e)))))))))))))))) (by kernel_rfl)
      ·obtain ⟨bt9, A15, h⟩ := bnd h
       obtain ⟨bt10, A16, h⟩ := bnd h
       obtain ⟨t11, A17, h⟩ := bnd h
       obtain ⟨t12, A18, h⟩ := bnd h
       have h := si h; subst h
       exact pth Tryz.func63 [.r (.ag [.i .i64 bt1.1, .i .i64 bt1.2.1, .i .i64 bt1.2.2]), .br false, .r (.s (.b t2)), .br false, .br false, .r (.s (.b t3)), .br false, .br false, .r (.s (.i .i64 t4)), .br true, .r (.tu [.s (.sl .u64 bt9.1), .s (.i .i64 bt9.2)]), .r (.tu [.s (.sl .u64 bt10.1), .s (.sl .u64 bt10.2.1), .s (.i .i64 bt10.2.2)]), .r (.s (.sl .u64 t11)), .r (.s (.i .u64 t12))] (fun e => ai (round_of.c A1) (ai (z0 c2) (ai (dyadic_Form.c A3) (ai (nt1 c4) (ai (z0 c5) (ai (round_long.c A6) (ai (z0 c7) (ai (q0 c8) (ai (nat_Bits.c A9) (ai (by decide : (2 : Int) ≠ 0) (ai (n1 c10) (ai (nat_Shl.c A15) (ai (natdiv_Root.c A16) (ai (round_sticky.c A17) (ai (by decide : (2 : Int) ≠ 0) (ai (round_widths_size.c A18) e)))))))))))))))) (by kernel_rfl)
  ·have h := si h; subst h
   exact pth Tryz.func63 [.r (.ag [.i .i64 bt1.1, .i .i64 bt1.2.1, .i .i64 bt1.2.2]), .br false, .r (.s (.b t2)), .br true] (fun e => ai (round_of.c A1) (ai (z0 c2) (ai (dyadic_Form.c A3) (ai (nt0 (z0 c4)) e)))) (by kernel_rfl)
def soft_Div.f (k : Nat) (a0 : Int) (a1 : Int) (a2 : Int) : Option (Int × Int) := (soft_pair.f k a0 a1 a2).bind fun bt1 => (if bt1.2.2 = 0 then (opm bt1.1 (opm bt1.2.1 ((soft_over.f bt1.1 bt1.2.1).bind fun t12 => ((soft_tell.f k a0 t12).bind fun bt13 => (some (bt13.1, bt13.2)))) (fun ob7 => ((soft_over.f bt1.1 bt1.2.1).bind fun t14 => ((soft_tell.f k a0 t14).bind fun bt15 => (some (bt15.1, bt15.2))))) (fun ob8 => ((soft_over.f bt1.1 bt1.2.1).bind fun t16 => ((soft_tell.f k a0 t16).bind fun bt17 => (some (bt17.1, bt17.2))))) (fun ob9 ol10 ox11 => ((soft_over.f bt1.1 bt1.2.1).bind fun t18 => ((soft_tell.f k a0 t18).bind fun bt19 => (some (bt19.1, bt19.2)))))) (fun ob2 => (opm bt1.2.1 ((soft_over.f bt1.1 bt1.2.1).bind fun t25 => ((soft_tell.f k a0 t25).bind fun bt26 => (some (bt26.1, bt26.2)))) (fun ob20 => ((soft_over.f bt1.1 bt1.2.1).bind fun t27 => ((soft_tell.f k a0 t27).bind fun bt28 => (some (bt28.1, bt28.2))))) (fun ob21 => ((soft_over.f bt1.1 bt1.2.1).bind fun t29 => ((soft_tell.f k a0 t29).bind fun bt30 => (some (bt30.1, bt30.2))))) (fun ob22 ol23 ox24 => ((soft_over.f bt1.1 bt1.2.1).bind fun t31 => ((soft_tell.f k a0 t31).bind fun bt32 => (some (bt32.1, bt32.2))))))) (fun ob3 => (opm bt1.2.1 ((soft_over.f bt1.1 bt1.2.1).bind fun t38 => ((soft_tell.f k a0 t38).bind fun bt39 => (some (bt39.1, bt39.2)))) (fun ob33 => ((soft_over.f bt1.1 bt1.2.1).bind fun t40 => ((soft_tell.f k a0 t40).bind fun bt41 => (some (bt41.1, bt41.2))))) (fun ob34 => ((soft_over.f bt1.1 bt1.2.1).bind fun t42 => ((soft_tell.f k a0 t42).bind fun bt43 => (some (bt43.1, bt43.2))))) (fun ob35 ol36 ox37 => ((soft_over.f bt1.1 bt1.2.1).bind fun t44 => ((soft_tell.f k a0 t44).bind fun bt45 => (some (bt45.1, bt45.2))))))) (fun ob4 ol5 ox6 => (opm bt1.2.1 ((soft_over.f bt1.1 bt1.2.1).bind fun t51 => ((soft_tell.f k a0 t51).bind fun bt52 => (some (bt52.1, bt52.2)))) (fun ob46 => ((soft_over.f bt1.1 bt1.2.1).bind fun t53 => ((soft_tell.f k a0 t53).bind fun bt54 => (some (bt54.1, bt54.2))))) (fun ob47 => ((soft_over.f bt1.1 bt1.2.1).bind fun t55 => ((soft_tell.f k a0 t55).bind fun bt56 => (some (bt56.1, bt56.2))))) (fun ob48 ol49 ox50 => ((round_Quotient.f k a0 ob4 ol5 ox6 ob48 ol49 ox50).bind fun bt57 => (some (bt57.1, bt57.2))))))) else (some (0, bt1.2.2)))
theorem soft_Div.mono : ∀ a0 a1 a2 k, LeO (soft_Div.f k a0 a1 a2) (soft_Div.f (k + 1) a0 a1 a2) := by
 intro a0 a1 a2 k
 unfold soft_Div.f
 repeat' first
  | (with_reducible exact round_Quotient.mono _ _ _ _ _ _ _ _)
  | (with_reducible exact soft_pair.mono _ _ _ _)
  | (with_reducible exact soft_tell.mono _ _ _)
  | (with_reducible exact LeO.refl _)
  | (with_reducible exact LeO.none _)
  | (with_reducible refine LeO.ite ?_ ?_)
  | (with_reducible refine LeO.bind ?_ (fun _ => ?_))
  | (with_reducible refine LeO.opm ?_ (fun _ => ?_) (fun _ => ?_) (fun _ _ _ => ?_))
theorem soft_Div.c {k : Nat} {a0 : Int} {a1 : Int} {a2 : Int} {r : Int × Int} (h : soft_Div.f k a0 a1 a2 = some r) : Con Tryz.prog Gw 19 [.s (.i .i64 a0), .s (.i .u64 a1), .s (.i .u64 a2)] (· = .tu [.s (.i .u64 r.1), .s (.i .i64 r.2)]) := by
 unfold soft_Div.f at h
 obtain ⟨bt1, A1, h⟩ := bnd h
 rcases ite_e h with ⟨c2, h⟩ | ⟨c2, h⟩
 ·rcases opm_e h with ⟨e3, h⟩ | ⟨ob2, e4, h⟩ | ⟨ob3, e5, h⟩ | ⟨ob4, ol5, ox6, e6, h⟩
  ·rcases opm_e h with ⟨e7, h⟩ | ⟨ob7, e8, h⟩ | ⟨ob8, e9, h⟩ | ⟨ob9, ol10, ox11, e10, h⟩
   ·obtain ⟨t12, A11, h⟩ := bnd h
    obtain ⟨bt13, A12, h⟩ := bnd h
    have h := si h; subst h
    exact pth Tryz.func19 [.r (.tu [.s (.ifc (opT bt1.1) (opL bt1.1)), .s (.ifc (opT bt1.2.1) (opL bt1.2.1)), .s (.i .i64 bt1.2.2)]), .br false, .cs (.ifc 144 []), .cs (.ifc 144 []), .br false, .br false, .br false, .r (.s (.ifc (opT t12) (opL t12))), .r (.tu [.s (.i .u64 bt13.1), .s (.i .i64 bt13.2)])] (fun e => ai (soft_pair.c A1) (ai (n0 c2) (ai (op_e e3) (ai (op_e e7) (ai ff (ai ff (ai ff (ai (soft_over.c A11) (ai (soft_tell.c A12) e))))))))) (by kernel_rfl)
   ·obtain ⟨t14, A13, h⟩ := bnd h
    obtain ⟨bt15, A14, h⟩ := bnd h
    have h := si h; subst h
    exact pth Tryz.func19 [.r (.tu [.s (.ifc (opT bt1.1) (opL bt1.1)), .s (.ifc (opT bt1.2.1) (opL bt1.2.1)), .s (.i .i64 bt1.2.2)]), .br false, .cs (.ifc 144 []), .cs (.ifc 95 [.b ob7]), .br false, .br false, .br false, .r (.s (.ifc (opT t14) (opL t14))), .r (.tu [.s (.i .u64 bt15.1), .s (.i .i64 bt15.2)])] (fun e => ai (soft_pair.c A1) (ai (n0 c2) (ai (op_e e3) (ai (op_e e8) (ai ff (ai ff (ai ff (ai (soft_over.c A13) (ai (soft_tell.c A14) e))))))))) (by kernel_rfl)
   ·obtain ⟨t16, A15, h⟩ := bnd h
    obtain ⟨bt17, A16, h⟩ := bnd h
    have h := si h; subst h
    exact pth Tryz.func19 [.r (.tu [.s (.ifc (opT bt1.1) (opL bt1.1)), .s (.ifc (opT bt1.2.1) (opL bt1.2.1)), .s (.i .i64 bt1.2.2)]), .br false, .cs (.ifc 144 []), .cs (.ifc 94 [.b ob8]), .br false, .br false, .br false, .r (.s (.ifc (opT t16) (opL t16))), .r (.tu [.s (.i .u64 bt17.1), .s (.i .i64 bt17.2)])] (fun e => ai (soft_pair.c A1) (ai (n0 c2) (ai (op_e e3) (ai (op_e e9) (ai ff (ai ff (ai ff (ai (soft_over.c A15) (ai (soft_tell.c A16) e))))))))) (by kernel_rfl)
   ·obtain ⟨t18, A17, h⟩ := bnd h
    obtain ⟨bt19, A18, h⟩ := bnd h
    have h := si h; subst h
    exact pth Tryz.func19 [.r (.tu [.s (.ifc (opT bt1.1) (opL bt1.1)), .s (.ifc (opT bt1.2.1) (opL bt1.2.1)), .s (.i .i64 bt1.2.2)]), .br false, .cs (.ifc 144 []), .cs (.ifc 88 [.b ob9, .sl .u64 ol10, .i .i64 ox11]), .br false, .br false, .br false, .r (.s (.ifc (opT t18) (opL t18))), .r (.tu [.s (.i .u64 bt19.1), .s (.i .i64 bt19.2)])] (fun e => ai (soft_pair.c A1) (ai (n0 c2) (ai (op_e e3) (ai (op_e e10) (ai ff (ai ff (ai ff (ai (soft_over.c A17) (ai (soft_tell.c A18) e))))))))) (by kernel_rfl)
  ·rcases opm_e h with ⟨e19, h⟩ | ⟨ob20, e20, h⟩ | ⟨ob21, e21, h⟩ | ⟨ob22, ol23, ox24, e22, h⟩
   ·obtain ⟨t25, A23, h⟩ := bnd h
    obtain ⟨bt26, A24, h⟩ := bnd h
    have h := si h; subst h
    exact pth Tryz.func19 [.r (.tu [.s (.ifc (opT bt1.1) (opL bt1.1)), .s (.ifc (opT bt1.2.1) (opL bt1.2.1)), .s (.i .i64 bt1.2.2)]), .br false, .cs (.ifc 95 [.b ob2]), .cs (.ifc 144 []), .br false, .br false, .br false, .r (.s (.ifc (opT t25) (opL t25))), .r (.tu [.s (.i .u64 bt26.1), .s (.i .i64 bt26.2)])] (fun e => ai (soft_pair.c A1) (ai (n0 c2) (ai (op_e e4) (ai (op_e e19) (ai ff (ai ff (ai ff (ai (soft_over.c A23) (ai (soft_tell.c A24) e))))))))) (by kernel_rfl)
   ·obtain ⟨t27, A25, h⟩ := bnd h
    obtain ⟨bt28, A26, h⟩ := bnd h
    have h := si h; subst h
    exact pth Tryz.func19 [.r (.tu [.s (.ifc (opT bt1.1) (opL bt1.1)), .s (.ifc (opT bt1.2.1) (opL bt1.2.1)), .s (.i .i64 bt1.2.2)]), .br false, .cs (.ifc 95 [.b ob2]), .cs (.ifc 95 [.b ob20]), .br false, .br false, .br false, .r (.s (.ifc (opT t27) (opL t27))), .r (.tu [.s (.i .u64 bt28.1), .s (.i .i64 bt28.2)])] (fun e => ai (soft_pair.c A1) (ai (n0 c2) (ai (op_e e4) (ai (op_e e20) (ai ff (ai ff (ai ff (ai (soft_over.c A25) (ai (soft_tell.c A26) e))))))))) (by kernel_rfl)
   ·obtain ⟨t29, A27, h⟩ := bnd h
    obtain ⟨bt30, A28, h⟩ := bnd h
    have h := si h; subst h
    exact pth Tryz.func19 [.r (.tu [.s (.ifc (opT bt1.1) (opL bt1.1)), .s (.ifc (opT bt1.2.1) (opL bt1.2.1)), .s (.i .i64 bt1.2.2)]), .br false, .cs (.ifc 95 [.b ob2]), .cs (.ifc 94 [.b ob21]), .br false, .br false, .br false, .r (.s (.ifc (opT t29) (opL t29))), .r (.tu [.s (.i .u64 bt30.1), .s (.i .i64 bt30.2)])] (fun e => ai (soft_pair.c A1) (ai (n0 c2) (ai (op_e e4) (ai (op_e e21) (ai ff (ai ff (ai ff (ai (soft_over.c A27) (ai (soft_tell.c A28) e))))))))) (by kernel_rfl)
   ·obtain ⟨t31, A29, h⟩ := bnd h
    obtain ⟨bt32, A30, h⟩ := bnd h
    have h := si h; subst h
    exact pth Tryz.func19 [.r (.tu [.s (.ifc (opT bt1.1) (opL bt1.1)), .s (.ifc (opT bt1.2.1) (opL bt1.2.1)), .s (.i .i64 bt1.2.2)]), .br false, .cs (.ifc 95 [.b ob2]), .cs (.ifc 88 [.b ob22, .sl .u64 ol23, .i .i64 ox24]), .br false, .br false, .br false, .r (.s (.ifc (opT t31) (opL t31))), .r (.tu [.s (.i .u64 bt32.1), .s (.i .i64 bt32.2)])] (fun e => ai (soft_pair.c A1) (ai (n0 c2) (ai (op_e e4) (ai (op_e e22) (ai ff (ai ff (ai ff (ai (soft_over.c A29) (ai (soft_tell.c A30) e))))))))) (by kernel_rfl)
  ·rcases opm_e h with ⟨e31, h⟩ | ⟨ob33, e32, h⟩ | ⟨ob34, e33, h⟩ | ⟨ob35, ol36, ox37, e34, h⟩
   ·obtain ⟨t38, A35, h⟩ := bnd h
    obtain ⟨bt39, A36, h⟩ := bnd h
    have h := si h; subst h
    exact pth Tryz.func19 [.r (.tu [.s (.ifc (opT bt1.1) (opL bt1.1)), .s (.ifc (opT bt1.2.1) (opL bt1.2.1)), .s (.i .i64 bt1.2.2)]), .br false, .cs (.ifc 94 [.b ob3]), .cs (.ifc 144 []), .br false, .br false, .br false, .r (.s (.ifc (opT t38) (opL t38))), .r (.tu [.s (.i .u64 bt39.1), .s (.i .i64 bt39.2)])] (fun e => ai (soft_pair.c A1) (ai (n0 c2) (ai (op_e e5) (ai (op_e e31) (ai ff (ai ff (ai ff (ai (soft_over.c A35) (ai (soft_tell.c A36) e))))))))) (by kernel_rfl)
   ·obtain ⟨t40, A37, h⟩ := bnd h
    obtain ⟨bt41, A38, h⟩ := bnd h
    have h := si h; subst h
    exact pth Tryz.func19 [.r (.tu [.s (.ifc (opT bt1.1) (opL bt1.1)), .s (.ifc (opT bt1.2.1) (opL bt1.2.1)), .s (.i .i64 bt1.2.2)]), .br false, .cs (.ifc 94 [.b ob3]), .cs (.ifc 95 [.b ob33]), .br false, .br false, .br false, .r (.s (.ifc (opT t40) (opL t40))), .r (.tu [.s (.i .u64 bt41.1), .s (.i .i64 bt41.2)])] (fun e => ai (soft_pair.c A1) (ai (n0 c2) (ai (op_e e5) (ai (op_e e32) (ai ff (ai ff (ai ff (ai (soft_over.c A37) (ai (soft_tell.c A38) e))))))))) (by kernel_rfl)
   ·obtain ⟨t42, A39, h⟩ := bnd h
    obtain ⟨bt43, A40, h⟩ := bnd h
    have h := si h; subst h
    exact pth Tryz.func19 [.r (.tu [.s (.ifc (opT bt1.1) (opL bt1.1)), .s (.ifc (opT bt1.2.1) (opL bt1.2.1)), .s (.i .i64 bt1.2.2)]), .br false, .cs (.ifc 94 [.b ob3]), .cs (.ifc 94 [.b ob34]), .br false, .br false, .br false, .r (.s (.ifc (opT t42) (opL t42))), .r (.tu [.s (.i .u64 bt43.1), .s (.i .i64 bt43.2)])] (fun e => ai (soft_pair.c A1) (ai (n0 c2) (ai (op_e e5) (ai (op_e e33) (ai ff (ai ff (ai ff (ai (soft_over.c A39) (ai (soft_tell.c A40) e))))))))) (by kernel_rfl)
   ·obtain ⟨t44, A41, h⟩ := bnd h
    obtain ⟨bt45, A42, h⟩ := bnd h
    have h := si h; subst h
    exact pth Tryz.func19 [.r (.tu [.s (.ifc (opT bt1.1) (opL bt1.1)), .s (.ifc (opT bt1.2.1) (opL bt1.2.1)), .s (.i .i64 bt1.2.2)]), .br false, .cs (.ifc 94 [.b ob3]), .cs (.ifc 88 [.b ob35, .sl .u64 ol36, .i .i64 ox37]), .br false, .br false, .br false, .r (.s (.ifc (opT t44) (opL t44))), .r (.tu [.s (.i .u64 bt45.1), .s (.i .i64 bt45.2)])] (fun e => ai (soft_pair.c A1) (ai (n0 c2) (ai (op_e e5) (ai (op_e e34) (ai ff (ai ff (ai ff (ai (soft_over.c A41) (ai (soft_tell.c A42) e))))))))) (by kernel_rfl)
  ·rcases opm_e h with ⟨e43, h⟩ | ⟨ob46, e44, h⟩ | ⟨ob47, e45, h⟩ | ⟨ob48, ol49, ox50, e46, h⟩
   ·obtain ⟨t51, A47, h⟩ := bnd h
    obtain ⟨bt52, A48, h⟩ := bnd h
    have h := si h; subst h
    exact pth Tryz.func19 [.r (.tu [.s (.ifc (opT bt1.1) (opL bt1.1)), .s (.ifc (opT bt1.2.1) (opL bt1.2.1)), .s (.i .i64 bt1.2.2)]), .br false, .cs (.ifc 88 [.b ob4, .sl .u64 ol5, .i .i64 ox6]), .cs (.ifc 144 []), .br true, .br true, .br false, .r (.s (.ifc (opT t51) (opL t51))), .r (.tu [.s (.i .u64 bt52.1), .s (.i .i64 bt52.2)])] (fun e => ai (soft_pair.c A1) (ai (n0 c2) (ai (op_e e6) (ai (op_e e43) (ai tt (ai tt (ai ff (ai (soft_over.c A47) (ai (soft_tell.c A48) e))))))))) (by kernel_rfl)
   ·obtain ⟨t53, A49, h⟩ := bnd h
    obtain ⟨bt54, A50, h⟩ := bnd h
    have h := si h; subst h
    exact pth Tryz.func19 [.r (.tu [.s (.ifc (opT bt1.1) (opL bt1.1)), .s (.ifc (opT bt1.2.1) (opL bt1.2.1)), .s (.i .i64 bt1.2.2)]), .br false, .cs (.ifc 88 [.b ob4, .sl .u64 ol5, .i .i64 ox6]), .cs (.ifc 95 [.b ob46]), .br true, .br true, .br false, .r (.s (.ifc (opT t53) (opL t53))), .r (.tu [.s (.i .u64 bt54.1), .s (.i .i64 bt54.2)])] (fun e => ai (soft_pair.c A1) (ai (n0 c2) (ai (op_e e6) (ai (op_e e44) (ai tt (ai tt (ai ff (ai (soft_over.c A49) (ai (soft_tell.c A50) e))))))))) (by kernel_rfl)
   ·obtain ⟨t55, A51, h⟩ := bnd h
    obtain ⟨bt56, A52, h⟩ := bnd h
    have h := si h; subst h
    exact pth Tryz.func19 [.r (.tu [.s (.ifc (opT bt1.1) (opL bt1.1)), .s (.ifc (opT bt1.2.1) (opL bt1.2.1)), .s (.i .i64 bt1.2.2)]), .br false, .cs (.ifc 88 [.b ob4, .sl .u64 ol5, .i .i64 ox6]), .cs (.ifc 94 [.b ob47]), .br true, .br true, .br false, .r (.s (.ifc (opT t55) (opL t55))), .r (.tu [.s (.i .u64 bt56.1), .s (.i .i64 bt56.2)])] (fun e => ai (soft_pair.c A1) (ai (n0 c2) (ai (op_e e6) (ai (op_e e45) (ai tt (ai tt (ai ff (ai (soft_over.c A51) (ai (soft_tell.c A52) e))))))))) (by kernel_rfl)
   ·obtain ⟨bt57, A53, h⟩ := bnd h
    have h := si h; subst h
    exact pth Tryz.func19 [.r (.tu [.s (.ifc (opT bt1.1) (opL bt1.1)), .s (.ifc (opT bt1.2.1) (opL bt1.2.1)), .s (.i .i64 bt1.2.2)]), .br false, .cs (.ifc 88 [.b ob4, .sl .u64 ol5, .i .i64 ox6]), .cs (.ifc 88 [.b ob48, .sl .u64 ol49, .i .i64 ox50]), .br true, .br true, .br true, .r (.tu [.s (.i .u64 bt57.1), .s (.i .i64 bt57.2)])] (fun e => ai (soft_pair.c A1) (ai (n0 c2) (ai (op_e e6) (ai (op_e e46) (ai tt (ai tt (ai tt (ai (round_Quotient.c A53) e)))))))) (by kernel_rfl)
 ·have h := si h; subst h
  exact pth Tryz.func19 [.r (.tu [.s (.ifc (opT bt1.1) (opL bt1.1)), .s (.ifc (opT bt1.2.1) (opL bt1.2.1)), .s (.i .i64 bt1.2.2)]), .br true] (fun e => ai (soft_pair.c A1) (ai (n1 c2) e)) (by kernel_rfl)
def soft_Sqrt.f (k : Nat) (a0 : Int) (a1 : Int) : Option (Int × Int) := (soft_read.f k a0 a1).bind fun bt1 => (if bt1.2 = 0 then (opm bt1.1 ((binary_Quiet.f a0).bind fun bt7 => (some (bt7.1, bt7.2))) (fun ob2 => (if ob2 = true then ((binary_Quiet.f a0).bind fun bt8 => (some (bt8.1, bt8.2))) else ((soft_tell.f k a0 (Opd.inf ob2)).bind fun bt9 => (some (bt9.1, bt9.2))))) (fun ob3 => ((soft_tell.f k a0 (Opd.nou ob3)).bind fun bt10 => (some (bt10.1, bt10.2)))) (fun ob4 ol5 ox6 => ((soft_number_below.f ob4 ol5 ox6).bind fun t11 => (if t11 = true then ((binary_Quiet.f a0).bind fun bt12 => (some (bt12.1, bt12.2))) else ((round_Root.f k a0 ob4 ol5 ox6).bind fun bt13 => (some (bt13.1, bt13.2))))))) else (some (0, bt1.2)))
theorem soft_Sqrt.mono : ∀ a0 a1 k, LeO (soft_Sqrt.f k a0 a1) (soft_Sqrt.f (k + 1) a0 a1) := by
 intro a0 a1 k
 unfold soft_Sqrt.f
 repeat' first
  | (with_reducible exact round_Root.mono _ _ _ _ _)
  | (with_reducible exact soft_read.mono _ _ _)
  | (with_reducible exact soft_tell.mono _ _ _)
  | (with_reducible exact LeO.refl _)
  | (with_reducible exact LeO.none _)
  | (with_reducible refine LeO.ite ?_ ?_)
  | (with_reducible refine LeO.bind ?_ (fun _ => ?_))
  | (with_reducible refine LeO.opm ?_ (fun _ => ?_) (fun _ => ?_) (fun _ _ _ => ?_))
theorem soft_Sqrt.c {k : Nat} {a0 : Int} {a1 : Int} {r : Int × Int} (h : soft_Sqrt.f k a0 a1 = some r) : Con Tryz.prog Gw 20 [.s (.i .i64 a0), .s (.i .u64 a1)] (· = .tu [.s (.i .u64 r.1), .s (.i .i64 r.2)]) := by
 unfold soft_Sqrt.f at h
 obtain ⟨bt1, A1, h⟩ := bnd h
 rcases ite_e h with ⟨c2, h⟩ | ⟨c2, h⟩
 ·rcases opm_e h with ⟨e3, h⟩ | ⟨ob2, e4, h⟩ | ⟨ob3, e5, h⟩ | ⟨ob4, ol5, ox6, e6, h⟩
  ·obtain ⟨bt7, A7, h⟩ := bnd h
   have h := si h; subst h
   exact pth Tryz.func20 [.r (.tu [.s (.ifc (opT bt1.1) (opL bt1.1)), .s (.i .i64 bt1.2)]), .br false, .cs (.ifc 144 []), .br false, .cs (.ifc 144 []), .br false, .cs (.ifc 144 []), .br false, .r (.tu [.s (.i .u64 bt7.1), .s (.i .i64 bt7.2)])] (fun e => ai (soft_read.c A1) (ai (n0 c2) (ai (op_e e3) (ai ff (ai (op_e e3) (ai ff (ai (op_e e3) (ai ff (ai (binary_Quiet.c A7) e))))))))) (by kernel_rfl)
  ·rcases ite_e h with ⟨c8, h⟩ | ⟨c8, h⟩
   ·obtain ⟨bt8, A9, h⟩ := bnd h
    have h := si h; subst h
    exact pth Tryz.func20 [.r (.tu [.s (.ifc (opT bt1.1) (opL bt1.1)), .s (.i .i64 bt1.2)]), .br false, .cs (.ifc 95 [.b ob2]), .br false, .cs (.ifc 95 [.b ob2]), .br true, .br false, .r (.tu [.s (.i .u64 bt8.1), .s (.i .i64 bt8.2)])] (fun e => ai (soft_read.c A1) (ai (n0 c2) (ai (op_e e4) (ai ff (ai (op_e e4) (ai tt (ai (nt1 c8) (ai (binary_Quiet.c A9) e)))))))) (by kernel_rfl)
   ·obtain ⟨bt9, A10, h⟩ := bnd h
    have h := si h; subst h
    exact pth Tryz.func20 [.r (.tu [.s (.ifc (opT bt1.1) (opL bt1.1)), .s (.i .i64 bt1.2)]), .br false, .cs (.ifc 95 [.b ob2]), .br false, .cs (.ifc 95 [.b ob2]), .br true, .br true, .r (.tu [.s (.i .u64 bt9.1), .s (.i .i64 bt9.2)])] (fun e => ai (soft_read.c A1) (ai (n0 c2) (ai (op_e e4) (ai ff (ai (op_e e4) (ai tt (ai (nt0 (z0 c8)) (ai (soft_tell.c A10) e)))))))) (by kernel_rfl)
  ·obtain ⟨bt10, A11, h⟩ := bnd h
   have h := si h; subst h
   exact pth Tryz.func20 [.r (.tu [.s (.ifc (opT bt1.1) (opL bt1.1)), .s (.i .i64 bt1.2)]), .br false, .cs (.ifc 94 [.b ob3]), .br true, .r (.tu [.s (.i .u64 bt10.1), .s (.i .i64 bt10.2)])] (fun e => ai (soft_read.c A1) (ai (n0 c2) (ai (op_e e5) (ai tt (ai (soft_tell.c A11) e))))) (by kernel_rfl)
  ·obtain ⟨t11, A12, h⟩ := bnd h
   rcases ite_e h with ⟨c13, h⟩ | ⟨c13, h⟩
   ·obtain ⟨bt12, A14, h⟩ := bnd h
    have h := si h; subst h
    exact pth Tryz.func20 [.r (.tu [.s (.ifc (opT bt1.1) (opL bt1.1)), .s (.i .i64 bt1.2)]), .br false, .cs (.ifc 88 [.b ob4, .sl .u64 ol5, .i .i64 ox6]), .br false, .cs (.ifc 88 [.b ob4, .sl .u64 ol5, .i .i64 ox6]), .br false, .cs (.ifc 88 [.b ob4, .sl .u64 ol5, .i .i64 ox6]), .br true, .r (.s (.b t11)), .br false, .r (.tu [.s (.i .u64 bt12.1), .s (.i .i64 bt12.2)])] (fun e => ai (soft_read.c A1) (ai (n0 c2) (ai (op_e e6) (ai ff (ai (op_e e6) (ai ff (ai (op_e e6) (ai tt (ai (soft_number_below.c A12) (ai (nt1 c13) (ai (binary_Quiet.c A14) e))))))))))) (by kernel_rfl)
   ·obtain ⟨bt13, A15, h⟩ := bnd h
    have h := si h; subst h
    exact pth Tryz.func20 [.r (.tu [.s (.ifc (opT bt1.1) (opL bt1.1)), .s (.i .i64 bt1.2)]), .br false, .cs (.ifc 88 [.b ob4, .sl .u64 ol5, .i .i64 ox6]), .br false, .cs (.ifc 88 [.b ob4, .sl .u64 ol5, .i .i64 ox6]), .br false, .cs (.ifc 88 [.b ob4, .sl .u64 ol5, .i .i64 ox6]), .br true, .r (.s (.b t11)), .br true, .r (.tu [.s (.i .u64 bt13.1), .s (.i .i64 bt13.2)])] (fun e => ai (soft_read.c A1) (ai (n0 c2) (ai (op_e e6) (ai ff (ai (op_e e6) (ai ff (ai (op_e e6) (ai tt (ai (soft_number_below.c A12) (ai (nt0 (z0 c13)) (ai (round_Root.c A15) e))))))))))) (by kernel_rfl)
 ·have h := si h; subst h
  exact pth Tryz.func20 [.r (.tu [.s (.ifc (opT bt1.1) (opL bt1.1)), .s (.i .i64 bt1.2)]), .br true] (fun e => ai (soft_read.c A1) (ai (n1 c2) e)) (by kernel_rfl)
def round_Narrow.f (k : Nat) (a0 : Int) : Option (Int × Int) := (binary_ClassOf.f k 64 a0).bind fun bt1 => ((round_of.f 32).bind fun bt2 => (if bt1.1 = 4 then ((binary_Quiet.f 32).bind fun bt3 => (some (bt3.1, bt3.2))) else (if bt1.1 = 3 then ((round_widths_infinity.f bt2.1 bt2.2.1 bt2.2.2).bind fun t4 => ((round_widths_signed.f bt2.1 bt2.2.1 bt2.2.2 ((shr .u64 a0 63) == 1) t4).bind fun t5 => (some (t5, 0)))) else (if bt1.1 = 0 then ((round_widths_signed.f bt2.1 bt2.2.1 bt2.2.2 ((shr .u64 a0 63) == 1) 0).bind fun t6 => (some (t6, 0))) else ((binary_Value.f k 64 a0).bind fun bt7 => ((round_Nearest.f k 32 bt7.1 bt7.2.1 bt7.2.2.1).bind fun bt8 => (some (bt8.1, bt8.2))))))))
theorem round_Narrow.mono : ∀ a0 k, LeO (round_Narrow.f k a0) (round_Narrow.f (k + 1) a0) := by
 intro a0 k
 unfold round_Narrow.f
 repeat' first
  | (with_reducible exact binary_ClassOf.mono _ _ _)
  | (with_reducible exact binary_Value.mono _ _ _)
  | (with_reducible exact round_Nearest.mono _ _ _ _ _)
  | (with_reducible exact LeO.refl _)
  | (with_reducible exact LeO.none _)
  | (with_reducible refine LeO.ite ?_ ?_)
  | (with_reducible refine LeO.bind ?_ (fun _ => ?_))
theorem round_Narrow.c {k : Nat} {a0 : Int} {r : Int × Int} (h : round_Narrow.f k a0 = some r) : Con Tryz.prog Gw 46 [.s (.i .u64 a0)] (· = .tu [.s (.i .u64 r.1), .s (.i .i64 r.2)]) := by
 unfold round_Narrow.f at h
 obtain ⟨bt1, A1, h⟩ := bnd h
 obtain ⟨bt2, A2, h⟩ := bnd h
 rcases ite_e h with ⟨c3, h⟩ | ⟨c3, h⟩
 ·obtain ⟨bt3, A4, h⟩ := bnd h
  have h := si h; subst h
  exact pth Tryz.func46 [.r (.tu [.s (.i .i64 bt1.1), .s (.i .i64 bt1.2)]), .r (.ag [.i .i64 bt2.1, .i .i64 bt2.2.1, .i .i64 bt2.2.2]), .br true, .r (.tu [.s (.i .u64 bt3.1), .s (.i .i64 bt3.2)])] (fun e => ai (binary_ClassOf.c A1) (ai (round_of.c A2) (ai (by decide : (0 : Int) ≤ 63) (ai (q1 c3) (ai (binary_Quiet.c A4) e))))) (by kernel_rfl)
 ·rcases ite_e h with ⟨c5, h⟩ | ⟨c5, h⟩
  ·obtain ⟨t4, A6, h⟩ := bnd h
   obtain ⟨t5, A7, h⟩ := bnd h
   have h := si h; subst h
   exact pth Tryz.func46 [.r (.tu [.s (.i .i64 bt1.1), .s (.i .i64 bt1.2)]), .r (.ag [.i .i64 bt2.1, .i .i64 bt2.2.1, .i .i64 bt2.2.2]), .br false, .br true, .r (.s (.i .u64 t4)), .r (.s (.i .u64 t5))] (fun e => ai (binary_ClassOf.c A1) (ai (round_of.c A2) (ai (by decide : (0 : Int) ≤ 63) (ai (q0 c3) (ai (q1 c5) (ai (round_widths_infinity.c A6) (ai (round_widths_signed.c A7) e))))))) (by kernel_rfl)
  ·rcases ite_e h with ⟨c8, h⟩ | ⟨c8, h⟩
   ·obtain ⟨t6, A9, h⟩ := bnd h
    have h := si h; subst h
    exact pth Tryz.func46 [.r (.tu [.s (.i .i64 bt1.1), .s (.i .i64 bt1.2)]), .r (.ag [.i .i64 bt2.1, .i .i64 bt2.2.1, .i .i64 bt2.2.2]), .br false, .br false, .br true, .r (.s (.i .u64 t6))] (fun e => ai (binary_ClassOf.c A1) (ai (round_of.c A2) (ai (by decide : (0 : Int) ≤ 63) (ai (q0 c3) (ai (q0 c5) (ai (q1 c8) (ai (round_widths_signed.c A9) e))))))) (by kernel_rfl)
   ·obtain ⟨bt7, A10, h⟩ := bnd h
    obtain ⟨bt8, A11, h⟩ := bnd h
    have h := si h; subst h
    exact pth Tryz.func46 [.r (.tu [.s (.i .i64 bt1.1), .s (.i .i64 bt1.2)]), .r (.ag [.i .i64 bt2.1, .i .i64 bt2.2.1, .i .i64 bt2.2.2]), .br false, .br false, .br false, .r (.tu [.ag [.b bt7.1, .sl .u64 bt7.2.1, .i .i64 bt7.2.2.1], .s (.i .i64 bt7.2.2.2)]), .r (.tu [.s (.i .u64 bt8.1), .s (.i .i64 bt8.2)])] (fun e => ai (binary_ClassOf.c A1) (ai (round_of.c A2) (ai (by decide : (0 : Int) ≤ 63) (ai (q0 c3) (ai (q0 c5) (ai (q0 c8) (ai (binary_Value.c A10) (ai (round_Nearest.c A11) e)))))))) (by kernel_rfl)
end Go.Proofs.YtokoadgahflafaaGreatDoor.PLib
