/- Functions of the program as plain Lean functions (definitions as the print's), and that the machine's calls do what they do (contracts 'X.c', by Px). Condition: math/bits' table is laid. Sums, products and squares of double-doubles against the exact ones of layer 5; MulFloat is a product: the plain laws of DdByDyadics and DdFloats. Plain Lean over the functions. Condition: words. -/
import Derived.Test.YtapikmfckpgjoaaGreatDoorKDdFloatsPxL0
import Derived.Test.YtapikmfckpgjoaaGreatDoorKDdFloatsPxL1
import Derived.Test.YtapikmfckpgjoaaGreatDoorKDdFloatsPxL2
import Derived.Test.YtapikmfckpgjoaaGreatDoorKDdFloatsPxZ0
import Derived.Test.YtapikmfckpgjoaaGreatDoorKDdFloatsPxRef
import Derived.Test.YtapikmfckpgjoaaGreatDoorKDdFloatsPRefx0
import Derived.Test.YtapikmfckpgjoaaGreatDoorKDdFloatsSf1
section
set_option linter.unusedVariables false
namespace Go.Proofs.YtapikmfckpgjoaaGreatDoor.PLib
open Go Go.RowKit Go.Proofs.YtapikmfckpgjoaaGreatDoorW.PrintWords Go.Proofs.YtapikmfckpgjoaaGreatDoorW.PrintMore Go.Proofs.YtapikmfckpgjoaaGreatDoor.Given Go.Proofs.YtapikmfckpgjoaaGreatDoor.Px Go.Proofs.YtapikmfckpgjoaaGreatDoor.PRef
def gnomonlaw20_DdFloats.f (k : Nat) (a0_0 : Int) (a0_1 : Int) (a1 : Int) : Option (Bool) := (gnomonlaw20_awake.f).bind fun t1 => (if t1 = true then ((gnomonref20_Fit.f k a0_0 a0_1).bind fun t2 => (if t2 = true then ((gnomonref20_FitFloat.f a1).bind fun t3 => (if t3 = true then ((gnomonlaw20_pair.f a0_0 a0_1).bind fun bt4 => ((gnomonlaw20_float.f a1).bind fun t5 => ((dd_Value.f k bt4.1 bt4.2).bind fun bt6 => ((dd_Of.f t5).bind fun bt7 => ((dd_Value.f k bt7.1 bt7.2).bind fun bt8 => ((dyadic_Mul.f k bt6.1 bt6.2.1 bt6.2.2.1 bt8.1 bt8.2.1 bt8.2.2.1).bind fun bt9 => (if bt6.2.2.2 = 0 then (if bt8.2.2.2 = 0 then (if bt9.2.2.2 = 0 then ((dd_MulFloat.f bt4.1 bt4.2 t5).bind fun bt10 => ((gnomonlaw20_within.f k bt10.1 bt10.2 bt9.1 bt9.2.1 bt9.2.2.1 102).bind fun t11 => (if t11 = true then ((dd_Of.f t5).bind fun bt12 => ((dd_Mul.f bt4.1 bt4.2 bt12.1 bt12.2).bind fun bt13 => ((gnomonlaw20_within.f k bt13.1 bt13.2 bt9.1 bt9.2.1 bt9.2.2.1 102).bind fun t14 => (if t14 = true then ((dd_Of.f t5).bind fun bt15 => ((dd_Sum.f t5 0).bind fun bt16 => ((dd_Cmp.f bt15.1 bt15.2 bt16.1 bt16.2).bind fun t17 => (some (t17 == 0))))) else (some false))))) else (some false)))) else (some false)) else (some false)) else (some false)))))))) else (some true))) else (some true))) else (some false))
theorem gnomonlaw20_DdFloats.mono : ∀ a0 a1 a2 k, LeO (gnomonlaw20_DdFloats.f k a0 a1 a2) (gnomonlaw20_DdFloats.f (k + 1) a0 a1 a2) := by
 intro a0 a1 a2 k
 unfold gnomonlaw20_DdFloats.f
 repeat' first
  | (with_reducible exact dd_Value.mono _ _ _)
  | (with_reducible exact dyadic_Mul.mono _ _ _ _ _ _ _)
  | (with_reducible exact gnomonlaw20_within.mono _ _ _ _ _ _ _)
  | (with_reducible exact gnomonref20_Fit.mono _ _ _)
  | (with_reducible exact LeO.refl _)
  | (with_reducible exact LeO.none _)
  | (with_reducible refine LeO.ite ?_ ?_)
  | (with_reducible refine LeO.bind ?_ (fun _ => ?_))
theorem gnomonlaw20_DdFloats.c {k : Nat} {a0_0 : Int} {a0_1 : Int} {a1 : Int} {r : Bool} (h : gnomonlaw20_DdFloats.f k a0_0 a0_1 a1 = some r) : Con Tryz.prog Gw 7 [.ag [.i .u64 a0_0, .i .u64 a0_1], .s (.i .u64 a1)] (· = .s (.b r)) := by
 unfold gnomonlaw20_DdFloats.f at h
 obtain ⟨t1, A1, h⟩ := bnd h
 rcases ite_e h with ⟨c2, h⟩ | ⟨c2, h⟩
 ·obtain ⟨t2, A3, h⟩ := bnd h
  rcases ite_e h with ⟨c4, h⟩ | ⟨c4, h⟩
  ·obtain ⟨t3, A5, h⟩ := bnd h
   rcases ite_e h with ⟨c6, h⟩ | ⟨c6, h⟩
   ·obtain ⟨bt4, A7, h⟩ := bnd h
    obtain ⟨t5, A8, h⟩ := bnd h
    obtain ⟨bt6, A9, h⟩ := bnd h
    obtain ⟨bt7, A10, h⟩ := bnd h
    obtain ⟨bt8, A11, h⟩ := bnd h
    obtain ⟨bt9, A12, h⟩ := bnd h
    rcases ite_e h with ⟨c13, h⟩ | ⟨c13, h⟩
    ·rcases ite_e h with ⟨c14, h⟩ | ⟨c14, h⟩
     ·rcases ite_e h with ⟨c15, h⟩ | ⟨c15, h⟩
      ·obtain ⟨bt10, A16, h⟩ := bnd h
       obtain ⟨t11, A17, h⟩ := bnd h
       rcases ite_e h with ⟨c18, h⟩ | ⟨c18, h⟩
       ·obtain ⟨bt12, A19, h⟩ := bnd h
        obtain ⟨bt13, A20, h⟩ := bnd h
        obtain ⟨t14, A21, h⟩ := bnd h
        rcases ite_e h with ⟨c22, h⟩ | ⟨c22, h⟩
        ·obtain ⟨bt15, A23, h⟩ := bnd h
         obtain ⟨bt16, A24, h⟩ := bnd h
         obtain ⟨t17, A25, h⟩ := bnd h
         have h := si h; subst h
         exact pth Tryz.func7 [.r (.s (.b t1)), .br false, .r (.s (.b t2)), .br false, .br false, .r (.s (.b t3)), .br false, .br false, .br false, .r (.ag [.fl .f64 bt4.1, .fl .f64 bt4.2]), .r (.s (.fl .f64 t5)), .r (.tu [.ag [.b bt6.1, .sl .u64 bt6.2.1, .i .i64 bt6.2.2.1], .s (.i .i64 bt6.2.2.2)]), .r (.ag [.fl .f64 bt7.1, .fl .f64 bt7.2]), .r (.tu [.ag [.b bt8.1, .sl .u64 bt8.2.1, .i .i64 bt8.2.2.1], .s (.i .i64 bt8.2.2.2)]), .r (.tu [.ag [.b bt9.1, .sl .u64 bt9.2.1, .i .i64 bt9.2.2.1], .s (.i .i64 bt9.2.2.2)]), .br false, .br false, .br false, .br false, .br false, .br false, .br false, .r (.ag [.fl .f64 bt10.1, .fl .f64 bt10.2]), .r (.s (.b t11)), .br true, .br true, .br true, .r (.ag [.fl .f64 bt12.1, .fl .f64 bt12.2]), .br true, .r (.ag [.fl .f64 bt13.1, .fl .f64 bt13.2]), .br true, .br true, .r (.s (.b t14)), .br true, .br true, .br true, .r (.ag [.fl .f64 bt15.1, .fl .f64 bt15.2]), .br true, .br true, .r (.ag [.fl .f64 bt16.1, .fl .f64 bt16.2]), .br true, .r (.s (.i .i64 t17)), .br true, .br true] (fun e => ai (gnomonlaw20_awake.c A1) (ai (nt1 c2) (ai (gnomonref20_Fit.c A3) (ai (nt1 c4) (ai (nt1 c4) (ai (gnomonref20_FitFloat.c A5) (ai (nt1 c4) (ai (nt1 c4) (ai (nt1 c6) (ai (gnomonlaw20_pair.c A7) (ai (gnomonlaw20_float.c A8) (ai (dd_Value.c A9) (ai (dd_Of.c A10) (ai (dd_Value.c A11) (ai (dyadic_Mul.c A12) (ai (n0 c13) (ai (n0 c13) (ai (n0 c13) (ai (n0 c14) (ai (n0 c14) (ai (n0 c14) (ai (n0 c15) (ai (dd_MulFloat.c A16) (ai (gnomonlaw20_within.c A17) (ai c18 (ai c18 (ai c18 (ai (dd_Of.c A19) (ai c18 (ai (dd_Mul.c A20) (ai c18 (ai c18 (ai (gnomonlaw20_within.c A21) (ai c18 (ai c22 (ai c22 (ai (dd_Of.c A23) (ai c22 (ai c22 (ai (dd_Sum.c A24) (ai c22 (ai (dd_Cmp.c A25) (ai c22 (ai c22 e)))))))))))))))))))))))))))))))))))))))))))) (by kernel_rfl)
        ·have h := si h; subst h
         exact pth Tryz.func7 [.r (.s (.b t1)), .br false, .r (.s (.b t2)), .br false, .br false, .r (.s (.b t3)), .br false, .br false, .br false, .r (.ag [.fl .f64 bt4.1, .fl .f64 bt4.2]), .r (.s (.fl .f64 t5)), .r (.tu [.ag [.b bt6.1, .sl .u64 bt6.2.1, .i .i64 bt6.2.2.1], .s (.i .i64 bt6.2.2.2)]), .r (.ag [.fl .f64 bt7.1, .fl .f64 bt7.2]), .r (.tu [.ag [.b bt8.1, .sl .u64 bt8.2.1, .i .i64 bt8.2.2.1], .s (.i .i64 bt8.2.2.2)]), .r (.tu [.ag [.b bt9.1, .sl .u64 bt9.2.1, .i .i64 bt9.2.2.1], .s (.i .i64 bt9.2.2.2)]), .br false, .br false, .br false, .br false, .br false, .br false, .br false, .r (.ag [.fl .f64 bt10.1, .fl .f64 bt10.2]), .r (.s (.b t11)), .br true, .br true, .br true, .r (.ag [.fl .f64 bt12.1, .fl .f64 bt12.2]), .br true, .r (.ag [.fl .f64 bt13.1, .fl .f64 bt13.2]), .br true, .br true, .r (.s (.b t14)), .br true, .br false, .br false, .br false, .br false, .br false, .br false, .br false] (fun e => ai (gnomonlaw20_awake.c A1) (ai (nt1 c2) (ai (gnomonref20_Fit.c A3) (ai (nt1 c4) (ai (nt1 c4) (ai (gnomonref20_FitFloat.c A5) (ai (nt1 c4) (ai (nt1 c4) (ai (nt1 c6) (ai (gnomonlaw20_pair.c A7) (ai (gnomonlaw20_float.c A8) (ai (dd_Value.c A9) (ai (dd_Of.c A10) (ai (dd_Value.c A11) (ai (dyadic_Mul.c A12) (ai (n0 c13) (ai (n0 c13) (ai (n0 c13) (ai (n0 c14) (ai (n0 c14) (ai (n0 c14) (ai (n0 c15) (ai (dd_MulFloat.c A16) (ai (gnomonlaw20_within.c A17) (ai c18 (ai c18 (ai c18 (ai (dd_Of.c A19) (ai c18 (ai (dd_Mul.c A20) (ai c18 (ai c18 (ai (gnomonlaw20_within.c A21) (ai c18 (ai (z0 c22) (ai (z0 c22) (ai (z0 c22) (ai (z0 c22) (ai (z0 c22) (ai (z0 c22) (ai (z0 c22) e))))))))))))))))))))))))))))))))))))))))) (by kernel_rfl)
       ·have h := si h; subst h
        exact pth Tryz.func7 [.r (.s (.b t1)), .br false, .r (.s (.b t2)), .br false, .br false, .r (.s (.b t3)), .br false, .br false, .br false, .r (.ag [.fl .f64 bt4.1, .fl .f64 bt4.2]), .r (.s (.fl .f64 t5)), .r (.tu [.ag [.b bt6.1, .sl .u64 bt6.2.1, .i .i64 bt6.2.2.1], .s (.i .i64 bt6.2.2.2)]), .r (.ag [.fl .f64 bt7.1, .fl .f64 bt7.2]), .r (.tu [.ag [.b bt8.1, .sl .u64 bt8.2.1, .i .i64 bt8.2.2.1], .s (.i .i64 bt8.2.2.2)]), .r (.tu [.ag [.b bt9.1, .sl .u64 bt9.2.1, .i .i64 bt9.2.2.1], .s (.i .i64 bt9.2.2.2)]), .br false, .br false, .br false, .br false, .br false, .br false, .br false, .r (.ag [.fl .f64 bt10.1, .fl .f64 bt10.2]), .r (.s (.b t11)), .br false, .br false, .br false, .br false, .br false, .br false, .br false, .br false, .br false, .br false, .br false, .br false, .br false, .br false] (fun e => ai (gnomonlaw20_awake.c A1) (ai (nt1 c2) (ai (gnomonref20_Fit.c A3) (ai (nt1 c4) (ai (nt1 c4) (ai (gnomonref20_FitFloat.c A5) (ai (nt1 c4) (ai (nt1 c4) (ai (nt1 c6) (ai (gnomonlaw20_pair.c A7) (ai (gnomonlaw20_float.c A8) (ai (dd_Value.c A9) (ai (dd_Of.c A10) (ai (dd_Value.c A11) (ai (dyadic_Mul.c A12) (ai (n0 c13) (ai (n0 c13) (ai (n0 c13) (ai (n0 c14) (ai (n0 c14) (ai (n0 c14) (ai (n0 c15) (ai (dd_MulFloat.c A16) (ai (gnomonlaw20_within.c A17) (ai (z0 c18) (ai (z0 c18) (ai (z0 c18) (ai (z0 c18) (ai (z0 c18) (ai (z0 c18) (ai (z0 c18) (ai ff (ai ff (ai ff (ai ff (ai ff (ai ff (ai ff e)))))))))))))))))))))))))))))))))))))) (by kernel_rfl)
      ·have h := si h; subst h
       exact pth Tryz.func7 [.r (.s (.b t1)), .br false, .r (.s (.b t2)), .br false, .br false, .r (.s (.b t3)), .br false, .br false, .br false, .r (.ag [.fl .f64 bt4.1, .fl .f64 bt4.2]), .r (.s (.fl .f64 t5)), .r (.tu [.ag [.b bt6.1, .sl .u64 bt6.2.1, .i .i64 bt6.2.2.1], .s (.i .i64 bt6.2.2.2)]), .r (.ag [.fl .f64 bt7.1, .fl .f64 bt7.2]), .r (.tu [.ag [.b bt8.1, .sl .u64 bt8.2.1, .i .i64 bt8.2.2.1], .s (.i .i64 bt8.2.2.2)]), .r (.tu [.ag [.b bt9.1, .sl .u64 bt9.2.1, .i .i64 bt9.2.2.1], .s (.i .i64 bt9.2.2.2)]), .br false, .br false, .br false, .br false, .br false, .br false, .br true] (fun e => ai (gnomonlaw20_awake.c A1) (ai (nt1 c2) (ai (gnomonref20_Fit.c A3) (ai (nt1 c4) (ai (nt1 c4) (ai (gnomonref20_FitFloat.c A5) (ai (nt1 c4) (ai (nt1 c4) (ai (nt1 c6) (ai (gnomonlaw20_pair.c A7) (ai (gnomonlaw20_float.c A8) (ai (dd_Value.c A9) (ai (dd_Of.c A10) (ai (dd_Value.c A11) (ai (dyadic_Mul.c A12) (ai (n0 c13) (ai (n0 c13) (ai (n0 c13) (ai (n0 c14) (ai (n0 c14) (ai (n0 c14) (ai (n1 c15) e)))))))))))))))))))))) (by kernel_rfl)
     ·have h := si h; subst h
      exact pth Tryz.func7 [.r (.s (.b t1)), .br false, .r (.s (.b t2)), .br false, .br false, .r (.s (.b t3)), .br false, .br false, .br false, .r (.ag [.fl .f64 bt4.1, .fl .f64 bt4.2]), .r (.s (.fl .f64 t5)), .r (.tu [.ag [.b bt6.1, .sl .u64 bt6.2.1, .i .i64 bt6.2.2.1], .s (.i .i64 bt6.2.2.2)]), .r (.ag [.fl .f64 bt7.1, .fl .f64 bt7.2]), .r (.tu [.ag [.b bt8.1, .sl .u64 bt8.2.1, .i .i64 bt8.2.2.1], .s (.i .i64 bt8.2.2.2)]), .r (.tu [.ag [.b bt9.1, .sl .u64 bt9.2.1, .i .i64 bt9.2.2.1], .s (.i .i64 bt9.2.2.2)]), .br false, .br false, .br false, .br true, .br true, .br true, .br true] (fun e => ai (gnomonlaw20_awake.c A1) (ai (nt1 c2) (ai (gnomonref20_Fit.c A3) (ai (nt1 c4) (ai (nt1 c4) (ai (gnomonref20_FitFloat.c A5) (ai (nt1 c4) (ai (nt1 c4) (ai (nt1 c6) (ai (gnomonlaw20_pair.c A7) (ai (gnomonlaw20_float.c A8) (ai (dd_Value.c A9) (ai (dd_Of.c A10) (ai (dd_Value.c A11) (ai (dyadic_Mul.c A12) (ai (n0 c13) (ai (n0 c13) (ai (n0 c13) (ai (n1 c14) (ai (n1 c14) (ai (n1 c14) (ai tt e)))))))))))))))))))))) (by kernel_rfl)
    ·have h := si h; subst h
     exact pth Tryz.func7 [.r (.s (.b t1)), .br false, .r (.s (.b t2)), .br false, .br false, .r (.s (.b t3)), .br false, .br false, .br false, .r (.ag [.fl .f64 bt4.1, .fl .f64 bt4.2]), .r (.s (.fl .f64 t5)), .r (.tu [.ag [.b bt6.1, .sl .u64 bt6.2.1, .i .i64 bt6.2.2.1], .s (.i .i64 bt6.2.2.2)]), .r (.ag [.fl .f64 bt7.1, .fl .f64 bt7.2]), .r (.tu [.ag [.b bt8.1, .sl .u64 bt8.2.1, .i .i64 bt8.2.2.1], .s (.i .i64 bt8.2.2.2)]), .r (.tu [.ag [.b bt9.1, .sl .u64 bt9.2.1, .i .i64 bt9.2.2.1], .s (.i .i64 bt9.2.2.2)]), .br true, .br true, .br true, .br true, .br true, .br true, .br true] (fun e => ai (gnomonlaw20_awake.c A1) (ai (nt1 c2) (ai (gnomonref20_Fit.c A3) (ai (nt1 c4) (ai (nt1 c4) (ai (gnomonref20_FitFloat.c A5) (ai (nt1 c4) (ai (nt1 c4) (ai (nt1 c6) (ai (gnomonlaw20_pair.c A7) (ai (gnomonlaw20_float.c A8) (ai (dd_Value.c A9) (ai (dd_Of.c A10) (ai (dd_Value.c A11) (ai (dyadic_Mul.c A12) (ai (n1 c13) (ai (n1 c13) (ai (n1 c13) (ai tt (ai tt (ai tt (ai tt e)))))))))))))))))))))) (by kernel_rfl)
   ·have h := si h; subst h
    exact pth Tryz.func7 [.r (.s (.b t1)), .br false, .r (.s (.b t2)), .br false, .br false, .r (.s (.b t3)), .br false, .br false, .br true] (fun e => ai (gnomonlaw20_awake.c A1) (ai (nt1 c2) (ai (gnomonref20_Fit.c A3) (ai (nt1 c4) (ai (nt1 c4) (ai (gnomonref20_FitFloat.c A5) (ai (nt1 c4) (ai (nt1 c4) (ai (nt0 (z0 c6)) e))))))))) (by kernel_rfl)
  ·have h := si h; subst h
   exact pth Tryz.func7 [.r (.s (.b t1)), .br false, .r (.s (.b t2)), .br true, .br true, .br true, .br true, .br true] (fun e => ai (gnomonlaw20_awake.c A1) (ai (nt1 c2) (ai (gnomonref20_Fit.c A3) (ai (nt0 (z0 c4)) (ai (nt0 (z0 c4)) (ai (nt0 (z0 c4)) (ai (nt0 (z0 c4)) (ai tt e)))))))) (by kernel_rfl)
 ·have h := si h; subst h
  exact pth Tryz.func7 [.r (.s (.b t1)), .br true] (fun e => ai (gnomonlaw20_awake.c A1) (ai (nt0 (z0 c2)) e)) (by kernel_rfl)
end Go.Proofs.YtapikmfckpgjoaaGreatDoor.PLib
end
section
set_option linter.unusedVariables false
namespace Go.Proofs.YtapikmfckpgjoaaGreatDoor.DdByDyadicsL
open Go.RowKit Go.Proofs.YtapikmfckpgjoaaGreatDoorW.PrintWords Go.Proofs.YtapikmfckpgjoaaGreatDoorW.PrintMore Go.Proofs.YtapikmfckpgjoaaGreatDoor.Num Go.Proofs.YtapikmfckpgjoaaGreatDoor.PLib Go.Proofs.YtapikmfckpgjoaaGreatDoor.Ref Go.Proofs.YtapikmfckpgjoaaGreatDoor.GTh Go.Proofs.YtapikmfckpgjoaaGreatDoor.Given Go.Proofs.YtapikmfckpgjoaaGreatDoor.Rp1 Go.Proofs.YtapikmfckpgjoaaGreatDoor.Rp2 Go.Proofs.YtapikmfckpgjoaaGreatDoor.Rp3 Go.Proofs.YtapikmfckpgjoaaGreatDoor.Rp4 Go.Proofs.YtapikmfckpgjoaaGreatDoor.Rp5 Go.Proofs.YtapikmfckpgjoaaGreatDoor.Rp7 Go.Proofs.YtapikmfckpgjoaaGreatDoor.BinLaw Go.Proofs.YtapikmfckpgjoaaGreatDoor.Fm8 Go.Proofs.YtapikmfckpgjoaaGreatDoor.Rnd Go.Proofs.YtapikmfckpgjoaaGreatDoor.Px Go.Proofs.YtapikmfckpgjoaaGreatDoor.Sf1 Go.Proofs.YtapikmfckpgjoaaGreatDoor.DdB Go.Proofs.YtapikmfckpgjoaaGreatDoor.DdV Go.Proofs.YtapikmfckpgjoaaGreatDoor.DdE Go.Proofs.YtapikmfckpgjoaaGreatDoor.DdWi
theorem nl_V {E : Int} {n : Bool} {m : Nat} {x V : Int} (d : Dy E n m x V) (h : bl V.natAbs ≤ 2102) : nl m < 40 := by
 by_cases c : m = 0
 ·rw [c]; decide
 ·have := d.bl c
  unfold nl
  omega
theorem of_fin {x : Nat} (hx : x < 18446744073709551616) (h : Fl.fin x) : dd_Of.f x = some (x, 0) := by
 unfold dd_Of.f
 rw [finite_f hx, Option.bind_some, decide_eq_true ((fin_iff x).1 h), if_pos rfl]
theorem U0 : Fl.U 0 = 0 := by decide
theorem fin0 : Fl.fin 0 := (fin_iff 0).2 (by decide)
theorem of_Frm {x : Nat} (hx : x < 18446744073709551616) (h : Fl.fin x) : Frm x 0 ∧ V x 0 = Fl.U x := by
 refine ⟨⟨hx, by decide, h, fin0, ?_⟩, ?_⟩
 ·rw [U0, Int.add_zero]; exact (Fl.rnI_exact (Fl.U_isF x)).symm
 ·unfold V; rw [U0, Int.add_zero]
theorem ddFloats_lev (a b c : Nat) (ha : a < 18446744073709551616) (hb : b < 18446744073709551616) (hc : c < 18446744073709551616) : Ev (fun k => gnomonlaw20_DdFloats.f k (a : Int) (b : Int) (c : Int)) true := by
 unfold gnomonlaw20_DdFloats.f
 refine Ev.bind (ev_of wi_awake) (Ev.congr (fun k => if_pos rfl) ?_)
 rcases Dz.fit ha hb with ⟨⟨X, fx⟩, e1⟩ | e1
 rotate_left
 ·exact Ev.bind e1 (Ev.congr (fun k => if_neg (by decide)) (Ev.now _))
 refine Ev.bind e1 (Ev.congr (fun k => if_pos rfl) ?_)
 rcases Dz.fitFloat c with ⟨fc, e2⟩ | ⟨fc, e2⟩
 rotate_left
 ·exact Ev.bind (ev_of e2) (Ev.congr (fun k => if_neg (by decide)) (Ev.now _))
 have finc := (fit_bounds fc).1
 obtain ⟨Y, vY⟩ := of_Frm hc finc
 have eof := of_fin hc finc
 refine Ev.bind (ev_of e2) (Ev.congr (fun k => if_pos rfl) (Ev.bind (ev_of (wi_pair a b)) (Ev.bind (ev_of (wi_float c)) ?_)))
 obtain ⟨n1, m1, x1, d1, v1⟩ := value_f ha hb (Frm_FormP X)
 obtain ⟨n2, m2, x2, d2, v2⟩ := value_f hc (y := 0) (by decide) (Frm_FormP Y)
 have b1 := wi_V a b
 have b2 := wi_V c 0
 obtain ⟨n5, m5, x5, d5, _, v5⟩ := mul_dy d1 d2 (by decide) (by decide) (by decide) (by decide) (by omega) (by omega) (.inl (nl_V d1 b1))
 refine Ev.bind v1 (Ev.bind (ev_of eof) (Ev.bind v2 (Ev.bind v5 (Ev.congr (fun k => if_pos rfl) (Ev.congr (fun k => if_pos rfl) (Ev.congr (fun k => if_pos rfl) ?_))))))
 have c5 : bl (V a b * V c 0).natAbs ≤ 4204 := by rw [Int.natAbs_mul]; exact bl_mul2 b1 b2
 obtain ⟨z1, z2, g1, F1, g, hg, r1⟩ := mulf_fit X fx fc
 obtain ⟨z3, z4, g2, F2, g', hg', r2⟩ := mul_any X Y fx fc
 rw [← vY] at r1
 have w1 := within_any F1 (K := g) (by omega) (by omega) d5 (by omega) 102 (by decide) (by
  generalize (V z1 z2 * 2^g - V a b * V c 0).natAbs = p at *
  generalize (V a b * V c 0).natAbs = q at *
  clear c5 b1 b2
  omega)
 have w2 := within_any F2 (K := g') (by omega) (by omega) d5 (by omega) 102 (by decide) r2
 have c0 : (Fl.U c).natAbs ≤ 1 * EftLaw.T0 := fit_T fc
 obtain ⟨s, t, g3, F3, r3⟩ := sum_any finc (b := 0) fin0 c0 (by rw [U0]; exact Nat.zero_le _)
 rw [U0, Int.add_zero] at r3
 have cm := cmp_f hc (y := 0) (by decide) F3.lh F3.ll (Frm_FormP Y) (Frm_FormP F3)
 rw [vY, r3] at cm
 have cz : cmZ (Fl.U c) (Fl.U c) = 0 := by unfold cmZ; rw [if_neg (by omega), if_neg (by omega)]
 rw [cz] at cm
 exact Ev.bind (ev_of g1) (Ev.bind w1 (Ev.congr (fun k => if_pos rfl) (Ev.bind (ev_of eof) (Ev.bind (ev_of g2) (Ev.bind w2 (Ev.congr (fun k => if_pos rfl) (Ev.bind (ev_of eof) (Ev.bind (ev_of g3) (Ev.bind (ev_of cm) (Ev.now _))))))))))
theorem ddFloats_lrow (a0 b0 a1 : Int) (w0 : (Lit.int .u64 a0).wf = true) (z0 : (Lit.int .u64 b0).wf = true) (w1 : (Lit.int .u64 a1).wf = true) : Ev (fun k => gnomonlaw20_DdFloats.f k a0 b0 a1) true := by
 obtain ⟨a, rfl, ha⟩ := wi_u64 w0
 obtain ⟨b, rfl, hb⟩ := wi_u64 z0
 obtain ⟨c, rfl, hc⟩ := wi_u64 w1
 exact ddFloats_lev a b c ha hb hc
end Go.Proofs.YtapikmfckpgjoaaGreatDoor.DdByDyadicsL
end
