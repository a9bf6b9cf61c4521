/- Functions of the program as plain Lean functions (definitions as the print's), and that the machine's calls do what they do (contracts 'X.c', by Px). Condition: math/bits' table is laid. -/
import Derived.Test.YtapikmfckpgjoaaGreatDoorKDdMulsRp5
import Derived.Test.YtapikmfckpgjoaaGreatDoorKDdMulsPxL1
import Derived.Test.YtapikmfckpgjoaaGreatDoorKDdMulsPxL2
import Derived.Test.YtapikmfckpgjoaaGreatDoorKDdMulsPxZ0
import Derived.Test.YtapikmfckpgjoaaGreatDoorKDdMulsPxRef
set_option linter.unusedVariables false
namespace Go.Proofs.YtapikmfckpgjoaaGreatDoor.PLib
open Go Go.RowKit Go.Proofs.YtapikmfckpgjoaaGreatDoorW.PrintWords Go.Proofs.YtapikmfckpgjoaaGreatDoorW.PrintMore Go.Proofs.YtapikmfckpgjoaaGreatDoor.Given Go.Proofs.YtapikmfckpgjoaaGreatDoor.Px Go.Proofs.YtapikmfckpgjoaaGreatDoor.PRef
def gnomonlaw20_reckons.f (k : Nat) (a0_0 : Int) (a0_1 : Int) (a0_2 : Int) (a0_3 : Int) (a0_4 : Int) : Option (Bool) := if a0_0 = 6 then ((gnomonref20_FitFloat.f a0_1).bind fun t1 => (if t1 = true then ((gnomonref20_FitFloat.f a0_3).bind fun t2 => (if t2 = true then ((gnomonlaw20_float.f a0_1).bind fun t3 => ((gnomonlaw20_float.f a0_3).bind fun t4 => ((dd_Sum.f t3 t4).bind fun bt5 => ((gnomonlaw20_bits.f bt5.1 bt5.2).bind fun bt6 => ((gnomonref20_Number.f k a0_1).bind fun bt7 => ((gnomonref20_Number.f k a0_3).bind fun bt8 => ((gnomonref04_Add.f k bt7.1 bt7.2 bt8.1 bt8.2).bind fun bt9 => ((gnomonref20_Just.f k bt6.1 bt6.2 bt9.1 bt9.2).bind fun t10 => (some t10))))))))) else (some true))) else (some true))) else ((gnomonref20_Fit.f k a0_1 a0_2).bind fun t11 => (if t11 = true then (if a0_0 = 11 then ((gnomonref20_Sum.f k a0_1 a0_2).bind fun bt12 => ((gnomonref20_One.f k).bind fun bt13 => ((gnomonlaw20_pair.f a0_1 a0_2).bind fun bt14 => ((gnomonlaw20_pair.f a0_3 a0_4).bind fun bt15 => ((dd_Sqr.f bt14.1 bt14.2).bind fun bt16 => ((gnomonlaw20_bits.f bt16.1 bt16.2).bind fun bt17 => ((gnomonref04_Mul.f k bt12.1 bt12.2 bt12.1 bt12.2).bind fun bt18 => ((gnomonref20_Near.f k bt17.1 bt17.2 bt18.1 bt18.2 bt13.1 bt13.2 102).bind fun t19 => (some t19))))))))) else ((gnomonref20_FitFloat.f a0_3).bind fun t20 => (if t20 = true then (if a0_0 = 10 then ((gnomonref20_Sum.f k a0_1 a0_2).bind fun bt21 => ((gnomonref20_One.f k).bind fun bt22 => ((gnomonref20_Number.f k a0_3).bind fun bt23 => ((gnomonlaw20_pair.f a0_1 a0_2).bind fun bt24 => ((gnomonlaw20_pair.f a0_3 a0_4).bind fun bt25 => ((dd_MulFloat.f bt24.1 bt24.2 bt25.1).bind fun bt26 => ((gnomonlaw20_bits.f bt26.1 bt26.2).bind fun bt27 => ((gnomonref04_Mul.f k bt21.1 bt21.2 bt23.1 bt23.2).bind fun bt28 => ((gnomonref20_Near.f k bt27.1 bt27.2 bt28.1 bt28.2 bt22.1 bt22.2 102).bind fun t29 => (some t29)))))))))) else ((gnomonref20_Fit.f k a0_3 a0_4).bind fun t30 => (if t30 = true then ((gnomonref20_Sum.f k a0_1 a0_2).bind fun bt31 => ((gnomonref20_One.f k).bind fun bt32 => ((gnomonref20_Sum.f k a0_3 a0_4).bind fun bt33 => ((gnomonlaw20_pair.f a0_1 a0_2).bind fun bt34 => ((gnomonlaw20_pair.f a0_3 a0_4).bind fun bt35 => (if a0_0 = 7 then ((dd_Add.f bt34.1 bt34.2 bt35.1 bt35.2).bind fun bt36 => ((gnomonlaw20_bits.f bt36.1 bt36.2).bind fun bt37 => ((gnomonref04_Add.f k bt31.1 bt31.2 bt33.1 bt33.2).bind fun bt38 => ((gnomonref04_Of.f k 1).bind fun bt39 => ((gnomonref20_Near.f k bt37.1 bt37.2 bt38.1 bt38.2 bt39.1 bt39.2 103).bind fun t40 => (some t40)))))) else (if a0_0 = 8 then ((dd_Sub.f bt34.1 bt34.2 bt35.1 bt35.2).bind fun bt41 => ((gnomonlaw20_bits.f bt41.1 bt41.2).bind fun bt42 => ((gnomonref04_Sub.f k bt31.1 bt31.2 bt33.1 bt33.2).bind fun bt43 => ((gnomonref04_Of.f k 1).bind fun bt44 => ((gnomonref20_Near.f k bt42.1 bt42.2 bt43.1 bt43.2 bt44.1 bt44.2 103).bind fun t45 => (some t45)))))) else (if a0_0 = 9 then ((dd_Mul.f bt34.1 bt34.2 bt35.1 bt35.2).bind fun bt46 => ((gnomonlaw20_bits.f bt46.1 bt46.2).bind fun bt47 => ((gnomonref04_Mul.f k bt31.1 bt31.2 bt33.1 bt33.2).bind fun bt48 => ((gnomonref20_Near.f k bt47.1 bt47.2 bt48.1 bt48.2 bt32.1 bt32.2 102).bind fun t49 => (some t49))))) else ((gnomonref04_Sign.f bt33.1 bt33.2).bind fun t50 => (if t50 = 0 then (some true) else ((dd_Div.f bt34.1 bt34.2 bt35.1 bt35.2).bind fun bt51 => ((gnomonlaw20_bits.f bt51.1 bt51.2).bind fun bt52 => ((gnomonref04_Mul.f k bt31.1 bt31.2 bt32.1 bt32.2).bind fun bt53 => ((gnomonref20_Near.f k bt52.1 bt52.2 bt53.1 bt53.2 bt33.1 bt33.2 100).bind fun t54 => (some t54))))))))))))))) else (some true)))) else (some true)))) else (some true)))
theorem gnomonlaw20_reckons.mono : ∀ a0 a1 a2 a3 a4 k, LeO (gnomonlaw20_reckons.f k a0 a1 a2 a3 a4) (gnomonlaw20_reckons.f (k + 1) a0 a1 a2 a3 a4) := by
 intro a0 a1 a2 a3 a4 k
 unfold gnomonlaw20_reckons.f
 repeat' first
  | (with_reducible exact gnomonref04_Add.mono _ _ _ _ _)
  | (with_reducible exact gnomonref04_Mul.mono _ _ _ _ _)
  | (with_reducible exact gnomonref04_Of.mono _ _)
  | (with_reducible exact gnomonref04_Sub.mono _ _ _ _ _)
  | (with_reducible exact gnomonref20_Fit.mono _ _ _)
  | (with_reducible exact gnomonref20_Just.mono _ _ _ _ _)
  | (with_reducible exact gnomonref20_Near.mono _ _ _ _ _ _ _ _)
  | (with_reducible exact gnomonref20_Number.mono _ _)
  | (with_reducible exact gnomonref20_One.mono _)
  | (with_reducible exact gnomonref20_Sum.mono _ _ _)
  | (with_reducible exact LeO.refl _)
  | (with_reducible exact LeO.none _)
  | (with_reducible refine LeO.ite ?_ ?_)
  | (with_reducible refine LeO.bind ?_ (fun _ => ?_))
theorem gnomonlaw20_reckons.c {k : Nat} {a0_0 : Int} {a0_1 : Int} {a0_2 : Int} {a0_3 : Int} {a0_4 : Int} {r : Bool} (h : gnomonlaw20_reckons.f k a0_0 a0_1 a0_2 a0_3 a0_4 = some r) : Con Tryz.prog Gw 66 [.ag [.i .i64 a0_0, .i .u64 a0_1, .i .u64 a0_2, .i .u64 a0_3, .i .u64 a0_4]] (· = .s (.b r)) := by
 unfold gnomonlaw20_reckons.f at h
 rcases ite_e h with ⟨c1, h⟩ | ⟨c1, h⟩
 ·obtain ⟨t1, A2, h⟩ := bnd h
  rcases ite_e h with ⟨c3, h⟩ | ⟨c3, h⟩
  ·obtain ⟨t2, A4, h⟩ := bnd h
   rcases ite_e h with ⟨c5, h⟩ | ⟨c5, h⟩
   ·obtain ⟨t3, A6, h⟩ := bnd h
    obtain ⟨t4, A7, h⟩ := bnd h
    obtain ⟨bt5, A8, h⟩ := bnd h
    obtain ⟨bt6, A9, h⟩ := bnd h
    obtain ⟨bt7, A10, h⟩ := bnd h
    obtain ⟨bt8, A11, h⟩ := bnd h
    obtain ⟨bt9, A12, h⟩ := bnd h
    obtain ⟨t10, A13, h⟩ := bnd h
    have h := si h; subst h
    exact pth Tryz.func66 [.br true, .r (.s (.b t1)), .br false, .br false, .br false, .br false, .r (.s (.b t2)), .br false, .br false, .br false, .r (.s (.fl .f64 t3)), .r (.s (.fl .f64 t4)), .r (.ag [.fl .f64 bt5.1, .fl .f64 bt5.2]), .r (.ag [.i .u64 bt6.1, .i .u64 bt6.2]), .r (.ag [.b bt7.1, .sl .u32 bt7.2]), .r (.ag [.b bt8.1, .sl .u32 bt8.2]), .r (.ag [.b bt9.1, .sl .u32 bt9.2]), .r (.s (.b t10))] (fun e => ai (q1 c1) (ai (gnomonref20_FitFloat.c A2) (ai (nt1 c3) (ai (nt1 c3) (ai (nt1 c3) (ai (nt1 c3) (ai (gnomonref20_FitFloat.c A4) (ai (nt1 c3) (ai (nt1 c3) (ai (nt1 c5) (ai (gnomonlaw20_float.c A6) (ai (gnomonlaw20_float.c A7) (ai (dd_Sum.c A8) (ai (gnomonlaw20_bits.c A9) (ai (gnomonref20_Number.c A10) (ai (gnomonref20_Number.c A11) (ai (gnomonref04_Add.c A12) (ai (gnomonref20_Just.c A13) e)))))))))))))))))) (by kernel_rfl)
   ·have h := si h; subst h
    exact pth Tryz.func66 [.br true, .r (.s (.b t1)), .br false, .br false, .br false, .br false, .r (.s (.b t2)), .br false, .br false, .br true] (fun e => ai (q1 c1) (ai (gnomonref20_FitFloat.c A2) (ai (nt1 c3) (ai (nt1 c3) (ai (nt1 c3) (ai (nt1 c3) (ai (gnomonref20_FitFloat.c A4) (ai (nt1 c3) (ai (nt1 c3) (ai (nt0 (z0 c5)) e)))))))))) (by kernel_rfl)
  ·have h := si h; subst h
   exact pth Tryz.func66 [.br true, .r (.s (.b t1)), .br true, .br true, .br true, .br true, .br true, .br true, .br true] (fun e => ai (q1 c1) (ai (gnomonref20_FitFloat.c A2) (ai (nt0 (z0 c3)) (ai (nt0 (z0 c3)) (ai (nt0 (z0 c3)) (ai (nt0 (z0 c3)) (ai (nt0 (z0 c3)) (ai (nt0 (z0 c3)) (ai tt e))))))))) (by kernel_rfl)
 ·obtain ⟨t11, A14, h⟩ := bnd h
  rcases ite_e h with ⟨c15, h⟩ | ⟨c15, h⟩
  ·rcases ite_e h with ⟨c16, h⟩ | ⟨c16, h⟩
   ·obtain ⟨bt12, A17, h⟩ := bnd h
    obtain ⟨bt13, A18, h⟩ := bnd h
    obtain ⟨bt14, A19, h⟩ := bnd h
    obtain ⟨bt15, A20, h⟩ := bnd h
    obtain ⟨bt16, A21, h⟩ := bnd h
    obtain ⟨bt17, A22, h⟩ := bnd h
    obtain ⟨bt18, A23, h⟩ := bnd h
    obtain ⟨t19, A24, h⟩ := bnd h
    have h := si h; subst h
    exact pth Tryz.func66 [.br false, .r (.s (.b t11)), .br false, .br false, .br false, .br false, .br false, .br false, .br false, .br false, .br false, .br false, .br false, .br false, .br false, .br false, .br false, .br false, .br false, .br false, .br false, .br false, .br false, .br false, .br false, .r (.ag [.b bt12.1, .sl .u32 bt12.2]), .r (.ag [.b bt13.1, .sl .u32 bt13.2]), .br false, .br false, .r (.ag [.fl .f64 bt14.1, .fl .f64 bt14.2]), .r (.ag [.fl .f64 bt15.1, .fl .f64 bt15.2]), .br false, .br false, .br false, .br false, .br true, .r (.ag [.fl .f64 bt16.1, .fl .f64 bt16.2]), .r (.ag [.i .u64 bt17.1, .i .u64 bt17.2]), .r (.ag [.b bt18.1, .sl .u32 bt18.2]), .r (.s (.b t19))] (fun e => ai (q0 c1) (ai (gnomonref20_Fit.c A14) (ai (nt1 c15) (ai (nt1 c15) (ai (nt1 c15) (ai (nt1 c15) (ai (n0 c16) (ai (n0 c16) (ai (n0 c16) (ai (n0 c16) (ai (n0 c16) (ai (nt1 c15) (ai (n0 c16) (ai (nt1 c15) (ai ff (ai (n0 c16) (ai (n0 c16) (ai (n0 c16) (ai (n0 c16) (ai ff (ai ff (ai ff (ai ff (ai ff (ai ff (ai (gnomonref20_Sum.c A17) (ai (gnomonref20_One.c A18) (ai (eqc c16 (by decide : ((11 : Int) == 10) = false)) (ai (n0 c16) (ai (gnomonlaw20_pair.c A19) (ai (gnomonlaw20_pair.c A20) (ai (eqc c16 (by decide : ((11 : Int) == 7) = false)) (ai (eqc c16 (by decide : ((11 : Int) == 8) = false)) (ai (eqc c16 (by decide : ((11 : Int) == 9) = false)) (ai (eqc c16 (by decide : ((11 : Int) == 10) = false)) (ai (q1 c16) (ai (dd_Sqr.c A21) (ai (gnomonlaw20_bits.c A22) (ai (gnomonref04_Mul.c A23) (ai (gnomonref20_Near.c A24) e)))))))))))))))))))))))))))))))))))))))) (by kernel_rfl)
   ·obtain ⟨t20, A25, h⟩ := bnd h
    rcases ite_e h with ⟨c26, h⟩ | ⟨c26, h⟩
    ·rcases ite_e h with ⟨c27, h⟩ | ⟨c27, h⟩
     ·obtain ⟨bt21, A28, h⟩ := bnd h
      obtain ⟨bt22, A29, h⟩ := bnd h
      obtain ⟨bt23, A30, h⟩ := bnd h
      obtain ⟨bt24, A31, h⟩ := bnd h
      obtain ⟨bt25, A32, h⟩ := bnd h
      obtain ⟨bt26, A33, h⟩ := bnd h
      obtain ⟨bt27, A34, h⟩ := bnd h
      obtain ⟨bt28, A35, h⟩ := bnd h
      obtain ⟨t29, A36, h⟩ := bnd h
      have h := si h; subst h
      exact pth Tryz.func66 [.br false, .r (.s (.b t11)), .br false, .br false, .br false, .br false, .br true, .br true, .br true, .br true, .r (.s (.b t20)), .br true, .br false, .br true, .br false, .br false, .br true, .br true, .br true, .br true, .br false, .br false, .br false, .br false, .br false, .br false, .r (.ag [.b bt21.1, .sl .u32 bt21.2]), .r (.ag [.b bt22.1, .sl .u32 bt22.2]), .br true, .r (.ag [.b bt23.1, .sl .u32 bt23.2]), .r (.ag [.fl .f64 bt24.1, .fl .f64 bt24.2]), .r (.ag [.fl .f64 bt25.1, .fl .f64 bt25.2]), .br false, .br false, .br false, .br true, .r (.ag [.fl .f64 bt26.1, .fl .f64 bt26.2]), .r (.ag [.i .u64 bt27.1, .i .u64 bt27.2]), .r (.ag [.b bt28.1, .sl .u32 bt28.2]), .r (.s (.b t29))] (fun e => ai (q0 c1) (ai (gnomonref20_Fit.c A14) (ai (nt1 c15) (ai (nt1 c15) (ai (nt1 c15) (ai (nt1 c15) (ai (n1 c16) (ai (n1 c16) (ai (n1 c16) (ai (n1 c16) (ai (gnomonref20_FitFloat.c A25) (ai (n1 c16) (ai (nt1 c15) (ai (n1 c16) (ai (nt1 c15) (ai (nt1 c26) (ai (n1 c16) (ai (n1 c16) (ai (n1 c16) (ai (n1 c16) (ai (n0 c27) (ai (n0 c27) (ai (n0 c27) (ai (n0 c27) (ai (n0 c27) (ai ff (ai (gnomonref20_Sum.c A28) (ai (gnomonref20_One.c A29) (ai (q1 c27) (ai (gnomonref20_Number.c A30) (ai (gnomonlaw20_pair.c A31) (ai (gnomonlaw20_pair.c A32) (ai (eqc c27 (by decide : ((10 : Int) == 7) = false)) (ai (eqc c27 (by decide : ((10 : Int) == 8) = false)) (ai (eqc c27 (by decide : ((10 : Int) == 9) = false)) (ai (q1 c27) (ai (dd_MulFloat.c A33) (ai (gnomonlaw20_bits.c A34) (ai (gnomonref04_Mul.c A35) (ai (gnomonref20_Near.c A36) e)))))))))))))))))))))))))))))))))))))))) (by kernel_rfl)
     ·obtain ⟨t30, A37, h⟩ := bnd h
      rcases ite_e h with ⟨c38, h⟩ | ⟨c38, h⟩
      ·obtain ⟨bt31, A39, h⟩ := bnd h
       obtain ⟨bt32, A40, h⟩ := bnd h
       obtain ⟨bt33, A41, h⟩ := bnd h
       obtain ⟨bt34, A42, h⟩ := bnd h
       obtain ⟨bt35, A43, h⟩ := bnd h
       rcases ite_e h with ⟨c44, h⟩ | ⟨c44, h⟩
       ·obtain ⟨bt36, A45, h⟩ := bnd h
        obtain ⟨bt37, A46, h⟩ := bnd h
        obtain ⟨bt38, A47, h⟩ := bnd h
        obtain ⟨bt39, A48, h⟩ := bnd h
        obtain ⟨t40, A49, h⟩ := bnd h
        have h := si h; subst h
        exact pth Tryz.func66 [.br false, .r (.s (.b t11)), .br false, .br false, .br false, .br false, .br true, .br true, .br true, .br true, .r (.s (.b t20)), .br true, .br false, .br true, .br false, .br false, .br true, .br true, .br true, .br true, .br true, .br true, .br true, .r (.s (.b t30)), .br true, .br true, .br false, .r (.ag [.b bt31.1, .sl .u32 bt31.2]), .r (.ag [.b bt32.1, .sl .u32 bt32.2]), .br false, .br true, .r (.ag [.b bt33.1, .sl .u32 bt33.2]), .r (.ag [.fl .f64 bt34.1, .fl .f64 bt34.2]), .r (.ag [.fl .f64 bt35.1, .fl .f64 bt35.2]), .br true, .r (.ag [.fl .f64 bt36.1, .fl .f64 bt36.2]), .r (.ag [.i .u64 bt37.1, .i .u64 bt37.2]), .r (.ag [.b bt38.1, .sl .u32 bt38.2]), .r (.ag [.b bt39.1, .sl .u32 bt39.2]), .r (.s (.b t40))] (fun e => ai (q0 c1) (ai (gnomonref20_Fit.c A14) (ai (nt1 c15) (ai (nt1 c15) (ai (nt1 c15) (ai (nt1 c15) (ai (n1 c16) (ai (n1 c16) (ai (n1 c16) (ai (n1 c16) (ai (gnomonref20_FitFloat.c A25) (ai (n1 c16) (ai (nt1 c15) (ai (n1 c16) (ai (nt1 c15) (ai (nt1 c26) (ai (n1 c16) (ai (n1 c16) (ai (n1 c16) (ai (n1 c16) (ai (n1 c27) (ai (n1 c27) (ai (n1 c27) (ai (gnomonref20_Fit.c A37) (ai (n1 c27) (ai (n1 c27) (ai (nt1 c38) (ai (gnomonref20_Sum.c A39) (ai (gnomonref20_One.c A40) (ai (q0 c27) (ai (n1 c16) (ai (gnomonref20_Sum.c A41) (ai (gnomonlaw20_pair.c A42) (ai (gnomonlaw20_pair.c A43) (ai (q1 c44) (ai (dd_Add.c A45) (ai (gnomonlaw20_bits.c A46) (ai (gnomonref04_Add.c A47) (ai (gnomonref04_Of.c A48) (ai (gnomonref20_Near.c A49) e)))))))))))))))))))))))))))))))))))))))) (by kernel_rfl)
       ·rcases ite_e h with ⟨c50, h⟩ | ⟨c50, h⟩
        ·obtain ⟨bt41, A51, h⟩ := bnd h
         obtain ⟨bt42, A52, h⟩ := bnd h
         obtain ⟨bt43, A53, h⟩ := bnd h
         obtain ⟨bt44, A54, h⟩ := bnd h
         obtain ⟨t45, A55, h⟩ := bnd h
         have h := si h; subst h
         exact pth Tryz.func66 [.br false, .r (.s (.b t11)), .br false, .br false, .br false, .br false, .br true, .br true, .br true, .br true, .r (.s (.b t20)), .br true, .br false, .br true, .br false, .br false, .br true, .br true, .br true, .br true, .br true, .br true, .br true, .r (.s (.b t30)), .br true, .br true, .br false, .r (.ag [.b bt31.1, .sl .u32 bt31.2]), .r (.ag [.b bt32.1, .sl .u32 bt32.2]), .br false, .br true, .r (.ag [.b bt33.1, .sl .u32 bt33.2]), .r (.ag [.fl .f64 bt34.1, .fl .f64 bt34.2]), .r (.ag [.fl .f64 bt35.1, .fl .f64 bt35.2]), .br false, .br true, .r (.ag [.fl .f64 bt41.1, .fl .f64 bt41.2]), .r (.ag [.i .u64 bt42.1, .i .u64 bt42.2]), .r (.ag [.b bt43.1, .sl .u32 bt43.2]), .r (.ag [.b bt44.1, .sl .u32 bt44.2]), .r (.s (.b t45))] (fun e => ai (q0 c1) (ai (gnomonref20_Fit.c A14) (ai (nt1 c15) (ai (nt1 c15) (ai (nt1 c15) (ai (nt1 c15) (ai (n1 c16) (ai (n1 c16) (ai (n1 c16) (ai (n1 c16) (ai (gnomonref20_FitFloat.c A25) (ai (n1 c16) (ai (nt1 c15) (ai (n1 c16) (ai (nt1 c15) (ai (nt1 c26) (ai (n1 c16) (ai (n1 c16) (ai (n1 c16) (ai (n1 c16) (ai (n1 c27) (ai (n1 c27) (ai (n1 c27) (ai (gnomonref20_Fit.c A37) (ai (n1 c27) (ai (n1 c27) (ai (nt1 c38) (ai (gnomonref20_Sum.c A39) (ai (gnomonref20_One.c A40) (ai (q0 c27) (ai (n1 c16) (ai (gnomonref20_Sum.c A41) (ai (gnomonlaw20_pair.c A42) (ai (gnomonlaw20_pair.c A43) (ai (q0 c44) (ai (q1 c50) (ai (dd_Sub.c A51) (ai (gnomonlaw20_bits.c A52) (ai (gnomonref04_Sub.c A53) (ai (gnomonref04_Of.c A54) (ai (gnomonref20_Near.c A55) e))))))))))))))))))))))))))))))))))))))))) (by kernel_rfl)
        ·rcases ite_e h with ⟨c56, h⟩ | ⟨c56, h⟩
         ·obtain ⟨bt46, A57, h⟩ := bnd h
          obtain ⟨bt47, A58, h⟩ := bnd h
          obtain ⟨bt48, A59, h⟩ := bnd h
          obtain ⟨t49, A60, h⟩ := bnd h
          have h := si h; subst h
          exact pth Tryz.func66 [.br false, .r (.s (.b t11)), .br false, .br false, .br false, .br false, .br true, .br true, .br true, .br true, .r (.s (.b t20)), .br true, .br false, .br true, .br false, .br false, .br true, .br true, .br true, .br true, .br true, .br true, .br true, .r (.s (.b t30)), .br true, .br true, .br false, .r (.ag [.b bt31.1, .sl .u32 bt31.2]), .r (.ag [.b bt32.1, .sl .u32 bt32.2]), .br false, .br true, .r (.ag [.b bt33.1, .sl .u32 bt33.2]), .r (.ag [.fl .f64 bt34.1, .fl .f64 bt34.2]), .r (.ag [.fl .f64 bt35.1, .fl .f64 bt35.2]), .br false, .br false, .br true, .r (.ag [.fl .f64 bt46.1, .fl .f64 bt46.2]), .r (.ag [.i .u64 bt47.1, .i .u64 bt47.2]), .r (.ag [.b bt48.1, .sl .u32 bt48.2]), .r (.s (.b t49))] (fun e => ai (q0 c1) (ai (gnomonref20_Fit.c A14) (ai (nt1 c15) (ai (nt1 c15) (ai (nt1 c15) (ai (nt1 c15) (ai (n1 c16) (ai (n1 c16) (ai (n1 c16) (ai (n1 c16) (ai (gnomonref20_FitFloat.c A25) (ai (n1 c16) (ai (nt1 c15) (ai (n1 c16) (ai (nt1 c15) (ai (nt1 c26) (ai (n1 c16) (ai (n1 c16) (ai (n1 c16) (ai (n1 c16) (ai (n1 c27) (ai (n1 c27) (ai (n1 c27) (ai (gnomonref20_Fit.c A37) (ai (n1 c27) (ai (n1 c27) (ai (nt1 c38) (ai (gnomonref20_Sum.c A39) (ai (gnomonref20_One.c A40) (ai (q0 c27) (ai (n1 c16) (ai (gnomonref20_Sum.c A41) (ai (gnomonlaw20_pair.c A42) (ai (gnomonlaw20_pair.c A43) (ai (q0 c44) (ai (q0 c50) (ai (q1 c56) (ai (dd_Mul.c A57) (ai (gnomonlaw20_bits.c A58) (ai (gnomonref04_Mul.c A59) (ai (gnomonref20_Near.c A60) e))))))))))))))))))))))))))))))))))))))))) (by kernel_rfl)
         ·obtain ⟨t50, A61, h⟩ := bnd h
          rcases ite_e h with ⟨c62, h⟩ | ⟨c62, h⟩
          ·have h := si h; subst h
           exact pth Tryz.func66 [.br false, .r (.s (.b t11)), .br false, .br false, .br false, .br false, .br true, .br true, .br true, .br true, .r (.s (.b t20)), .br true, .br false, .br true, .br false, .br false, .br true, .br true, .br true, .br true, .br true, .br true, .br true, .r (.s (.b t30)), .br true, .br true, .br false, .r (.ag [.b bt31.1, .sl .u32 bt31.2]), .r (.ag [.b bt32.1, .sl .u32 bt32.2]), .br false, .br true, .r (.ag [.b bt33.1, .sl .u32 bt33.2]), .r (.ag [.fl .f64 bt34.1, .fl .f64 bt34.2]), .r (.ag [.fl .f64 bt35.1, .fl .f64 bt35.2]), .br false, .br false, .br false, .br false, .br false, .r (.s (.i .i64 t50)), .br true] (fun e => ai (q0 c1) (ai (gnomonref20_Fit.c A14) (ai (nt1 c15) (ai (nt1 c15) (ai (nt1 c15) (ai (nt1 c15) (ai (n1 c16) (ai (n1 c16) (ai (n1 c16) (ai (n1 c16) (ai (gnomonref20_FitFloat.c A25) (ai (n1 c16) (ai (nt1 c15) (ai (n1 c16) (ai (nt1 c15) (ai (nt1 c26) (ai (n1 c16) (ai (n1 c16) (ai (n1 c16) (ai (n1 c16) (ai (n1 c27) (ai (n1 c27) (ai (n1 c27) (ai (gnomonref20_Fit.c A37) (ai (n1 c27) (ai (n1 c27) (ai (nt1 c38) (ai (gnomonref20_Sum.c A39) (ai (gnomonref20_One.c A40) (ai (q0 c27) (ai (n1 c16) (ai (gnomonref20_Sum.c A41) (ai (gnomonlaw20_pair.c A42) (ai (gnomonlaw20_pair.c A43) (ai (q0 c44) (ai (q0 c50) (ai (q0 c56) (ai (q0 c27) (ai (q0 c16) (ai (gnomonref04_Sign.c A61) (ai (q1 c62) e))))))))))))))))))))))))))))))))))))))))) (by kernel_rfl)
          ·obtain ⟨bt51, A63, h⟩ := bnd h
           obtain ⟨bt52, A64, h⟩ := bnd h
           obtain ⟨bt53, A65, h⟩ := bnd h
           obtain ⟨t54, A66, h⟩ := bnd h
           have h := si h; subst h
           exact pth Tryz.func66 [.br false, .r (.s (.b t11)), .br false, .br false, .br false, .br false, .br true, .br true, .br true, .br true, .r (.s (.b t20)), .br true, .br false, .br true, .br false, .br false, .br true, .br true, .br true, .br true, .br true, .br true, .br true, .r (.s (.b t30)), .br true, .br true, .br false, .r (.ag [.b bt31.1, .sl .u32 bt31.2]), .r (.ag [.b bt32.1, .sl .u32 bt32.2]), .br false, .br true, .r (.ag [.b bt33.1, .sl .u32 bt33.2]), .r (.ag [.fl .f64 bt34.1, .fl .f64 bt34.2]), .r (.ag [.fl .f64 bt35.1, .fl .f64 bt35.2]), .br false, .br false, .br false, .br false, .br false, .r (.s (.i .i64 t50)), .br false, .r (.ag [.fl .f64 bt51.1, .fl .f64 bt51.2]), .r (.ag [.i .u64 bt52.1, .i .u64 bt52.2]), .r (.ag [.b bt53.1, .sl .u32 bt53.2]), .r (.s (.b t54))] (fun e => ai (q0 c1) (ai (gnomonref20_Fit.c A14) (ai (nt1 c15) (ai (nt1 c15) (ai (nt1 c15) (ai (nt1 c15) (ai (n1 c16) (ai (n1 c16) (ai (n1 c16) (ai (n1 c16) (ai (gnomonref20_FitFloat.c A25) (ai (n1 c16) (ai (nt1 c15) (ai (n1 c16) (ai (nt1 c15) (ai (nt1 c26) (ai (n1 c16) (ai (n1 c16) (ai (n1 c16) (ai (n1 c16) (ai (n1 c27) (ai (n1 c27) (ai (n1 c27) (ai (gnomonref20_Fit.c A37) (ai (n1 c27) (ai (n1 c27) (ai (nt1 c38) (ai (gnomonref20_Sum.c A39) (ai (gnomonref20_One.c A40) (ai (q0 c27) (ai (n1 c16) (ai (gnomonref20_Sum.c A41) (ai (gnomonlaw20_pair.c A42) (ai (gnomonlaw20_pair.c A43) (ai (q0 c44) (ai (q0 c50) (ai (q0 c56) (ai (q0 c27) (ai (q0 c16) (ai (gnomonref04_Sign.c A61) (ai (q0 c62) (ai (dd_Div.c A63) (ai (gnomonlaw20_bits.c A64) (ai (gnomonref04_Mul.c A65) (ai (gnomonref20_Near.c A66) e))))))))))))))))))))))))))))))))))))))))))))) (by kernel_rfl)
      ·have h := si h; subst h
       exact pth Tryz.func66 [.br false, .r (.s (.b t11)), .br false, .br false, .br false, .br false, .br true, .br true, .br true, .br true, .r (.s (.b t20)), .br true, .br false, .br true, .br false, .br false, .br true, .br true, .br true, .br true, .br true, .br true, .br true, .r (.s (.b t30)), .br true, .br true, .br true] (fun e => ai (q0 c1) (ai (gnomonref20_Fit.c A14) (ai (nt1 c15) (ai (nt1 c15) (ai (nt1 c15) (ai (nt1 c15) (ai (n1 c16) (ai (n1 c16) (ai (n1 c16) (ai (n1 c16) (ai (gnomonref20_FitFloat.c A25) (ai (n1 c16) (ai (nt1 c15) (ai (n1 c16) (ai (nt1 c15) (ai (nt1 c26) (ai (n1 c16) (ai (n1 c16) (ai (n1 c16) (ai (n1 c16) (ai (n1 c27) (ai (n1 c27) (ai (n1 c27) (ai (gnomonref20_Fit.c A37) (ai (n1 c27) (ai (n1 c27) (ai (nt0 (z0 c38)) e))))))))))))))))))))))))))) (by kernel_rfl)
    ·have h := si h; subst h
     exact pth Tryz.func66 [.br false, .r (.s (.b t11)), .br false, .br false, .br false, .br false, .br true, .br true, .br true, .br true, .r (.s (.b t20)), .br true, .br false, .br true, .br false, .br true] (fun e => ai (q0 c1) (ai (gnomonref20_Fit.c A14) (ai (nt1 c15) (ai (nt1 c15) (ai (nt1 c15) (ai (nt1 c15) (ai (n1 c16) (ai (n1 c16) (ai (n1 c16) (ai (n1 c16) (ai (gnomonref20_FitFloat.c A25) (ai (n1 c16) (ai (nt1 c15) (ai (n1 c16) (ai (nt1 c15) (ai (nt0 (z0 c26)) e)))))))))))))))) (by kernel_rfl)
  ·have h := si h; subst h
   exact pth Tryz.func66 [.br false, .r (.s (.b t11)), .br true, .br true, .br true, .br true, .br true, .br true, .br true] (fun e => ai (q0 c1) (ai (gnomonref20_Fit.c A14) (ai (nt0 (z0 c15)) (ai (nt0 (z0 c15)) (ai (nt0 (z0 c15)) (ai (nt0 (z0 c15)) (ai (nt0 (z0 c15)) (ai (nt0 (z0 c15)) (ai tt e))))))))) (by kernel_rfl)
def gnomonlaw20_plays.f (k : Nat) (a0_0 : Int) (a0_1 : Int) (a0_2 : Int) (a0_3 : Int) (a0_4 : Int) : Option (Bool) := if a0_0 ≥ 1 then (if a0_0 ≤ 5 then (none) else (if a0_0 < 6 then (some true) else (if a0_0 > 12 then (some true) else ((gnomonlaw20_reckons.f k a0_0 a0_1 a0_2 a0_3 a0_4).bind fun t2 => (some t2))))) else (if a0_0 < 6 then (some true) else (if a0_0 > 12 then (some true) else ((gnomonlaw20_reckons.f k a0_0 a0_1 a0_2 a0_3 a0_4).bind fun t3 => (some t3))))
theorem gnomonlaw20_plays.mono : ∀ a0 a1 a2 a3 a4 k, LeO (gnomonlaw20_plays.f k a0 a1 a2 a3 a4) (gnomonlaw20_plays.f (k + 1) a0 a1 a2 a3 a4) := by
 intro a0 a1 a2 a3 a4 k
 unfold gnomonlaw20_plays.f
 repeat' first
  | (with_reducible exact gnomonlaw20_reckons.mono _ _ _ _ _ _)
  | (with_reducible exact LeO.refl _)
  | (with_reducible exact LeO.none _)
  | (with_reducible refine LeO.ite ?_ ?_)
  | (with_reducible refine LeO.bind ?_ (fun _ => ?_))
theorem gnomonlaw20_plays.c {k : Nat} {a0_0 : Int} {a0_1 : Int} {a0_2 : Int} {a0_3 : Int} {a0_4 : Int} {r : Bool} (h : gnomonlaw20_plays.f k a0_0 a0_1 a0_2 a0_3 a0_4 = some r) : Con Tryz.prog Gw 35 [.ag [.i .i64 a0_0, .i .u64 a0_1, .i .u64 a0_2, .i .u64 a0_3, .i .u64 a0_4]] (· = .s (.b r)) := by
 unfold gnomonlaw20_plays.f at h
 rcases ite_e h with ⟨c1, h⟩ | ⟨c1, h⟩
 ·rcases ite_e h with ⟨c2, h⟩ | ⟨c2, h⟩
  ·cases h
  ·rcases ite_e h with ⟨c3, h⟩ | ⟨c3, h⟩
   ·have h := si h; subst h
    exact pth Tryz.func35 [.br true, .br true, .br true, .br true, .br false, .br true, .br true, .br true, .br true, .br true, .br true, .br true] (fun e => ai (d1 c1) (ai (d1 c1) (ai (d1 c1) (ai (d1 c1) (ai (d0 c2) (ai (d1 c3) (ai (d1 c3) (ai (d1 c3) (ai (d1 c3) (ai tt (ai tt (ai tt e)))))))))))) (by kernel_rfl)
   ·rcases ite_e h with ⟨c4, h⟩ | ⟨c4, h⟩
    ·have h := si h; subst h
     exact pth Tryz.func35 [.br true, .br true, .br true, .br true, .br false, .br false, .br false, .br false, .br false, .br true, .br true, .br true] (fun e => ai (d1 c1) (ai (d1 c1) (ai (d1 c1) (ai (d1 c1) (ai (d0 c2) (ai (d0 c3) (ai (d0 c3) (ai (d0 c3) (ai (d0 c3) (ai (d1 c4) (ai (d1 c4) (ai (d1 c4) e)))))))))))) (by kernel_rfl)
    ·obtain ⟨t2, A5, h⟩ := bnd h
     have h := si h; subst h
     exact pth Tryz.func35 [.br true, .br true, .br true, .br true, .br false, .br false, .br false, .br false, .br false, .br false, .br false, .r (.s (.b t2)), .br false] (fun e => ai (d1 c1) (ai (d1 c1) (ai (d1 c1) (ai (d1 c1) (ai (d0 c2) (ai (d0 c3) (ai (d0 c3) (ai (d0 c3) (ai (d0 c3) (ai (d0 c4) (ai (d0 c4) (ai (gnomonlaw20_reckons.c A5) (ai (d0 c4) e))))))))))))) (by kernel_rfl)
 ·rcases ite_e h with ⟨c6, h⟩ | ⟨c6, h⟩
  ·have h := si h; subst h
   exact pth Tryz.func35 [.br false, .br false, .br false, .br false, .br false, .br true, .br true, .br true, .br true, .br true, .br true, .br true] (fun e => ai (d0 c1) (ai (d0 c1) (ai (d0 c1) (ai (d0 c1) (ai ff (ai (d1 c6) (ai (d1 c6) (ai (d1 c6) (ai (d1 c6) (ai tt (ai tt (ai tt e)))))))))))) (by kernel_rfl)
  ·rcases ite_e h with ⟨c7, h⟩ | ⟨c7, h⟩
   ·have h := si h; subst h
    exact pth Tryz.func35 [.br false, .br false, .br false, .br false, .br false, .br false, .br false, .br false, .br false, .br true, .br true, .br true] (fun e => ai (d0 c1) (ai (d0 c1) (ai (d0 c1) (ai (d0 c1) (ai ff (ai (d0 c6) (ai (d0 c6) (ai (d0 c6) (ai (d0 c6) (ai (d1 c7) (ai (d1 c7) (ai (d1 c7) e)))))))))))) (by kernel_rfl)
   ·obtain ⟨t3, A8, h⟩ := bnd h
    have h := si h; subst h
    exact pth Tryz.func35 [.br false, .br false, .br false, .br false, .br false, .br false, .br false, .br false, .br false, .br false, .br false, .r (.s (.b t3)), .br false] (fun e => ai (d0 c1) (ai (d0 c1) (ai (d0 c1) (ai (d0 c1) (ai ff (ai (d0 c6) (ai (d0 c6) (ai (d0 c6) (ai (d0 c6) (ai (d0 c7) (ai (d0 c7) (ai (gnomonlaw20_reckons.c A8) (ai (d0 c7) e))))))))))))) (by kernel_rfl)
end Go.Proofs.YtapikmfckpgjoaaGreatDoor.PLib
