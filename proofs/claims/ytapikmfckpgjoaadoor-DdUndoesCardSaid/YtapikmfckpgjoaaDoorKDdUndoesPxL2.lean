/- Functions of the program as plain Lean functions (definitions as the print's), and that the machine's calls do what they do (contracts 'X.c', by Px). Condition: math/bits' table is laid. -/
import Derived.Test.YtapikmfckpgjoaaDoorKDdUndoesPxBr
import Derived.Test.YtapikmfckpgjoaaDoorKDdUndoesGP
import Derived.Test.YtapikmfckpgjoaaDoorKDdUndoesGiven
import Derived.Test.YtapikmfckpgjoaaDoorKDdUndoesPxL0
import Derived.Test.YtapikmfckpgjoaaDoorKDdUndoesPxL1
set_option linter.unusedVariables false
namespace Go.Proofs.YtapikmfckpgjoaaDoor.PLib
open Go Go.RowKit Go.Proofs.YtapikmfckpgjoaaDoorW.PrintWords Go.Proofs.YtapikmfckpgjoaaDoorW.PrintMore Go.Proofs.YtapikmfckpgjoaaDoor.Given Go.Proofs.YtapikmfckpgjoaaDoor.Px
def gnomonlaw20_size.f (k : Nat) (a0_0 : Bool) (l0_1 : List Int) (a0_2 : Int) (a1_0 : Bool) (l1_1 : List Int) (a1_2 : Int) : Option (Int) := if a0_0 = true then ((dyadic_Neg.f k a0_0 l0_1 a0_2).bind fun bt1 => (if a1_0 = true then ((dyadic_Neg.f k a1_0 l1_1 a1_2).bind fun bt2 => ((dyadic_Cmp.f k bt1.1 bt1.2.1 bt1.2.2.1 bt2.1 bt2.2.1 bt2.2.2.1).bind fun bt3 => (if bt3.2 = 0 then (some bt3.1) else (some 2)))) else ((dyadic_Cmp.f k bt1.1 bt1.2.1 bt1.2.2.1 a1_0 l1_1 a1_2).bind fun bt4 => (if bt4.2 = 0 then (some bt4.1) else (some 2))))) else (if a1_0 = true then ((dyadic_Neg.f k a1_0 l1_1 a1_2).bind fun bt5 => ((dyadic_Cmp.f k a0_0 l0_1 a0_2 bt5.1 bt5.2.1 bt5.2.2.1).bind fun bt6 => (if bt6.2 = 0 then (some bt6.1) else (some 2)))) else ((dyadic_Cmp.f k a0_0 l0_1 a0_2 a1_0 l1_1 a1_2).bind fun bt7 => (if bt7.2 = 0 then (some bt7.1) else (some 2))))
theorem gnomonlaw20_size.mono : ∀ a0 a1 a2 a3 a4 a5 k, LeO (gnomonlaw20_size.f k a0 a1 a2 a3 a4 a5) (gnomonlaw20_size.f (k + 1) a0 a1 a2 a3 a4 a5) := by
 intro a0 a1 a2 a3 a4 a5 k
 unfold gnomonlaw20_size.f
 repeat' first
  | (with_reducible exact dyadic_Cmp.mono _ _ _ _ _ _ _)
  | (with_reducible exact dyadic_Neg.mono _ _ _ _)
  | (with_reducible exact LeO.refl _)
  | (with_reducible exact LeO.none _)
  | (with_reducible refine LeO.ite ?_ ?_)
  | (with_reducible refine LeO.bind ?_ (fun _ => ?_))
theorem gnomonlaw20_size.c {k : Nat} {a0_0 : Bool} {l0_1 : List Int} {a0_2 : Int} {a1_0 : Bool} {l1_1 : List Int} {a1_2 : Int} {r : Int} (h : gnomonlaw20_size.f k a0_0 l0_1 a0_2 a1_0 l1_1 a1_2 = some r) : Con Tryd.prog Gw 63 [.ag [.b a0_0, .sl .u64 l0_1, .i .i64 a0_2], .ag [.b a1_0, .sl .u64 l1_1, .i .i64 a1_2]] (· = .s (.i .i64 r)) := by
 unfold gnomonlaw20_size.f at h
 rcases ite_e h with ⟨c1, h⟩ | ⟨c1, h⟩
 ·obtain ⟨bt1, A2, h⟩ := bnd h
  rcases ite_e h with ⟨c3, h⟩ | ⟨c3, h⟩
  ·obtain ⟨bt2, A4, h⟩ := bnd h
   obtain ⟨bt3, A5, h⟩ := bnd h
   rcases ite_e h with ⟨c6, h⟩ | ⟨c6, h⟩
   ·have h := si h; subst h
    exact pth Tryd.func63 [.br true, .r (.tu [.ag [.b bt1.1, .sl .u64 bt1.2.1, .i .i64 bt1.2.2.1], .s (.i .i64 bt1.2.2.2)]), .br true, .r (.tu [.ag [.b bt2.1, .sl .u64 bt2.2.1, .i .i64 bt2.2.2.1], .s (.i .i64 bt2.2.2.2)]), .r (.tu [.s (.i .i64 bt3.1), .s (.i .i64 bt3.2)]), .br false] (fun e => ai c1 (ai (dyadic_Neg.c A2) (ai c3 (ai (dyadic_Neg.c A4) (ai (dyadic_Cmp.c A5) (ai (n0 c6) e)))))) (by kernel_rfl)
   ·have h := si h; subst h
    exact pth Tryd.func63 [.br true, .r (.tu [.ag [.b bt1.1, .sl .u64 bt1.2.1, .i .i64 bt1.2.2.1], .s (.i .i64 bt1.2.2.2)]), .br true, .r (.tu [.ag [.b bt2.1, .sl .u64 bt2.2.1, .i .i64 bt2.2.2.1], .s (.i .i64 bt2.2.2.2)]), .r (.tu [.s (.i .i64 bt3.1), .s (.i .i64 bt3.2)]), .br true] (fun e => ai c1 (ai (dyadic_Neg.c A2) (ai c3 (ai (dyadic_Neg.c A4) (ai (dyadic_Cmp.c A5) (ai (n1 c6) e)))))) (by kernel_rfl)
  ·obtain ⟨bt4, A7, h⟩ := bnd h
   rcases ite_e h with ⟨c8, h⟩ | ⟨c8, h⟩
   ·have h := si h; subst h
    exact pth Tryd.func63 [.br true, .r (.tu [.ag [.b bt1.1, .sl .u64 bt1.2.1, .i .i64 bt1.2.2.1], .s (.i .i64 bt1.2.2.2)]), .br false, .r (.tu [.s (.i .i64 bt4.1), .s (.i .i64 bt4.2)]), .br false] (fun e => ai c1 (ai (dyadic_Neg.c A2) (ai (z0 c3) (ai (dyadic_Cmp.c A7) (ai (n0 c8) e))))) (by kernel_rfl)
   ·have h := si h; subst h
    exact pth Tryd.func63 [.br true, .r (.tu [.ag [.b bt1.1, .sl .u64 bt1.2.1, .i .i64 bt1.2.2.1], .s (.i .i64 bt1.2.2.2)]), .br false, .r (.tu [.s (.i .i64 bt4.1), .s (.i .i64 bt4.2)]), .br true] (fun e => ai c1 (ai (dyadic_Neg.c A2) (ai (z0 c3) (ai (dyadic_Cmp.c A7) (ai (n1 c8) e))))) (by kernel_rfl)
 ·rcases ite_e h with ⟨c9, h⟩ | ⟨c9, h⟩
  ·obtain ⟨bt5, A10, h⟩ := bnd h
   obtain ⟨bt6, A11, h⟩ := bnd h
   rcases ite_e h with ⟨c12, h⟩ | ⟨c12, h⟩
   ·have h := si h; subst h
    exact pth Tryd.func63 [.br false, .br true, .r (.tu [.ag [.b bt5.1, .sl .u64 bt5.2.1, .i .i64 bt5.2.2.1], .s (.i .i64 bt5.2.2.2)]), .r (.tu [.s (.i .i64 bt6.1), .s (.i .i64 bt6.2)]), .br false] (fun e => ai (z0 c1) (ai c9 (ai (dyadic_Neg.c A10) (ai (dyadic_Cmp.c A11) (ai (n0 c12) e))))) (by kernel_rfl)
   ·have h := si h; subst h
    exact pth Tryd.func63 [.br false, .br true, .r (.tu [.ag [.b bt5.1, .sl .u64 bt5.2.1, .i .i64 bt5.2.2.1], .s (.i .i64 bt5.2.2.2)]), .r (.tu [.s (.i .i64 bt6.1), .s (.i .i64 bt6.2)]), .br true] (fun e => ai (z0 c1) (ai c9 (ai (dyadic_Neg.c A10) (ai (dyadic_Cmp.c A11) (ai (n1 c12) e))))) (by kernel_rfl)
  ·obtain ⟨bt7, A13, h⟩ := bnd h
   rcases ite_e h with ⟨c14, h⟩ | ⟨c14, h⟩
   ·have h := si h; subst h
    exact pth Tryd.func63 [.br false, .br false, .r (.tu [.s (.i .i64 bt7.1), .s (.i .i64 bt7.2)]), .br false] (fun e => ai (z0 c1) (ai (z0 c9) (ai (dyadic_Cmp.c A13) (ai (n0 c14) e)))) (by kernel_rfl)
   ·have h := si h; subst h
    exact pth Tryd.func63 [.br false, .br false, .r (.tu [.s (.i .i64 bt7.1), .s (.i .i64 bt7.2)]), .br true] (fun e => ai (z0 c1) (ai (z0 c9) (ai (dyadic_Cmp.c A13) (ai (n1 c14) e)))) (by kernel_rfl)
def gnomonlaw20_within.f (k : Nat) (a0_0 : Nat) (a0_1 : Nat) (a1_0 : Bool) (l1_1 : List Int) (a1_2 : Int) (a2 : Int) : Option (Bool) := (dd_Value.f k a0_0 a0_1).bind fun bt1 => ((dyadic_Sub.f k bt1.1 bt1.2.1 bt1.2.2.1 a1_0 l1_1 a1_2).bind fun bt2 => ((dyadic_Scale.f k bt2.1 bt2.2.1 bt2.2.2.1 a2).bind fun bt3 => (if bt1.2.2.2 = 0 then (if bt2.2.2.2 = 0 then (if bt3.2.2.2 = 0 then ((dd_Form.f a0_0 a0_1).bind fun t4 => (if t4 = true then ((gnomonlaw20_size.f k bt3.1 bt3.2.1 bt3.2.2.1 a1_0 l1_1 a1_2).bind fun t5 => (some (decide (t5 ≤ 0)))) else (some false))) else (some false)) else (some false)) else (some false))))
theorem gnomonlaw20_within.mono : ∀ a0 a1 a2 a3 a4 a5 k, LeO (gnomonlaw20_within.f k a0 a1 a2 a3 a4 a5) (gnomonlaw20_within.f (k + 1) a0 a1 a2 a3 a4 a5) := by
 intro a0 a1 a2 a3 a4 a5 k
 unfold gnomonlaw20_within.f
 repeat' first
  | (with_reducible exact dd_Value.mono _ _ _)
  | (with_reducible exact dyadic_Scale.mono _ _ _ _ _)
  | (with_reducible exact dyadic_Sub.mono _ _ _ _ _ _ _)
  | (with_reducible exact gnomonlaw20_size.mono _ _ _ _ _ _ _)
  | (with_reducible exact LeO.refl _)
  | (with_reducible exact LeO.none _)
  | (with_reducible refine LeO.ite ?_ ?_)
  | (with_reducible refine LeO.bind ?_ (fun _ => ?_))
theorem gnomonlaw20_within.c {k : Nat} {a0_0 : Nat} {a0_1 : Nat} {a1_0 : Bool} {l1_1 : List Int} {a1_2 : Int} {a2 : Int} {r : Bool} (h : gnomonlaw20_within.f k a0_0 a0_1 a1_0 l1_1 a1_2 a2 = some r) : Con Tryd.prog Gw 26 [.ag [.fl .f64 a0_0, .fl .f64 a0_1], .ag [.b a1_0, .sl .u64 l1_1, .i .i64 a1_2], .s (.i .i64 a2)] (· = .s (.b r)) := by
 unfold gnomonlaw20_within.f at h
 obtain ⟨bt1, A1, h⟩ := bnd h
 obtain ⟨bt2, A2, h⟩ := bnd h
 obtain ⟨bt3, A3, h⟩ := bnd h
 rcases ite_e h with ⟨c4, h⟩ | ⟨c4, h⟩
 ·rcases ite_e h with ⟨c5, h⟩ | ⟨c5, h⟩
  ·rcases ite_e h with ⟨c6, h⟩ | ⟨c6, h⟩
   ·obtain ⟨t4, A7, h⟩ := bnd h
    rcases ite_e h with ⟨c8, h⟩ | ⟨c8, h⟩
    ·obtain ⟨t5, A9, h⟩ := bnd h
     have h := si h; subst h
     exact pth Tryd.func26 [.r (.tu [.ag [.b bt1.1, .sl .u64 bt1.2.1, .i .i64 bt1.2.2.1], .s (.i .i64 bt1.2.2.2)]), .r (.tu [.ag [.b bt2.1, .sl .u64 bt2.2.1, .i .i64 bt2.2.2.1], .s (.i .i64 bt2.2.2.2)]), .r (.tu [.ag [.b bt3.1, .sl .u64 bt3.2.1, .i .i64 bt3.2.2.1], .s (.i .i64 bt3.2.2.2)]), .br false, .br false, .br false, .br false, .br false, .br false, .br false, .br false, .r (.s (.b t4)), .br false, .br false, .br false, .r (.s (.i .i64 t5))] (fun e => ai (dd_Value.c A1) (ai (dyadic_Sub.c A2) (ai (dyadic_Scale.c A3) (ai (n0 c4) (ai (n0 c4) (ai (n0 c4) (ai (n0 c5) (ai (n0 c5) (ai (n0 c5) (ai (n0 c6) (ai (n0 c6) (ai (dd_Form.c A7) (ai (n0 c6) (ai (n0 c6) (ai (nt1 c8) (ai (gnomonlaw20_size.c A9) e)))))))))))))))) (by kernel_rfl)
    ·have h := si h; subst h
     exact pth Tryd.func26 [.r (.tu [.ag [.b bt1.1, .sl .u64 bt1.2.1, .i .i64 bt1.2.2.1], .s (.i .i64 bt1.2.2.2)]), .r (.tu [.ag [.b bt2.1, .sl .u64 bt2.2.1, .i .i64 bt2.2.2.1], .s (.i .i64 bt2.2.2.2)]), .r (.tu [.ag [.b bt3.1, .sl .u64 bt3.2.1, .i .i64 bt3.2.2.1], .s (.i .i64 bt3.2.2.2)]), .br false, .br false, .br false, .br false, .br false, .br false, .br false, .br false, .r (.s (.b t4)), .br false, .br false, .br true] (fun e => ai (dd_Value.c A1) (ai (dyadic_Sub.c A2) (ai (dyadic_Scale.c A3) (ai (n0 c4) (ai (n0 c4) (ai (n0 c4) (ai (n0 c5) (ai (n0 c5) (ai (n0 c5) (ai (n0 c6) (ai (n0 c6) (ai (dd_Form.c A7) (ai (n0 c6) (ai (n0 c6) (ai (nt0 (z0 c8)) e))))))))))))))) (by kernel_rfl)
   ·have h := si h; subst h
    exact pth Tryd.func26 [.r (.tu [.ag [.b bt1.1, .sl .u64 bt1.2.1, .i .i64 bt1.2.2.1], .s (.i .i64 bt1.2.2.2)]), .r (.tu [.ag [.b bt2.1, .sl .u64 bt2.2.1, .i .i64 bt2.2.2.1], .s (.i .i64 bt2.2.2.2)]), .r (.tu [.ag [.b bt3.1, .sl .u64 bt3.2.1, .i .i64 bt3.2.2.1], .s (.i .i64 bt3.2.2.2)]), .br false, .br false, .br false, .br false, .br false, .br false, .br true, .br true, .br true, .br true, .br true] (fun e => ai (dd_Value.c A1) (ai (dyadic_Sub.c A2) (ai (dyadic_Scale.c A3) (ai (n0 c4) (ai (n0 c4) (ai (n0 c4) (ai (n0 c5) (ai (n0 c5) (ai (n0 c5) (ai (n1 c6) (ai (n1 c6) (ai (n1 c6) (ai (n1 c6) (ai tt e)))))))))))))) (by kernel_rfl)
  ·have h := si h; subst h
   exact pth Tryd.func26 [.r (.tu [.ag [.b bt1.1, .sl .u64 bt1.2.1, .i .i64 bt1.2.2.1], .s (.i .i64 bt1.2.2.2)]), .r (.tu [.ag [.b bt2.1, .sl .u64 bt2.2.1, .i .i64 bt2.2.2.1], .s (.i .i64 bt2.2.2.2)]), .r (.tu [.ag [.b bt3.1, .sl .u64 bt3.2.1, .i .i64 bt3.2.2.1], .s (.i .i64 bt3.2.2.2)]), .br false, .br false, .br false, .br true, .br true, .br true, .br true, .br true, .br true, .br true, .br true] (fun e => ai (dd_Value.c A1) (ai (dyadic_Sub.c A2) (ai (dyadic_Scale.c A3) (ai (n0 c4) (ai (n0 c4) (ai (n0 c4) (ai (n1 c5) (ai (n1 c5) (ai (n1 c5) (ai tt (ai tt (ai tt (ai tt (ai tt e)))))))))))))) (by kernel_rfl)
 ·have h := si h; subst h
  exact pth Tryd.func26 [.r (.tu [.ag [.b bt1.1, .sl .u64 bt1.2.1, .i .i64 bt1.2.2.1], .s (.i .i64 bt1.2.2.2)]), .r (.tu [.ag [.b bt2.1, .sl .u64 bt2.2.1, .i .i64 bt2.2.2.1], .s (.i .i64 bt2.2.2.2)]), .r (.tu [.ag [.b bt3.1, .sl .u64 bt3.2.1, .i .i64 bt3.2.2.1], .s (.i .i64 bt3.2.2.2)]), .br true, .br true, .br true, .br true, .br true, .br true, .br true, .br true, .br true, .br true, .br true] (fun e => ai (dd_Value.c A1) (ai (dyadic_Sub.c A2) (ai (dyadic_Scale.c A3) (ai (n1 c4) (ai (n1 c4) (ai (n1 c4) (ai tt (ai tt (ai tt (ai tt (ai tt (ai tt (ai tt (ai tt e)))))))))))))) (by kernel_rfl)
def gnomonlaw20_awake.f  : Option (Bool) := (gnomonlaw20_float.f 4607182418800017408).bind fun t1 => ((gnomonlaw20_float.f 4359484439294640128).bind fun t2 => ((dd_Sum.f t1 t2).bind fun bt3 => ((gnomonlaw20_bits.f bt3.1 bt3.2).bind fun bt4 => ((gnomonlaw20_float.f 4607182418800017408).bind fun t5 => ((dd_Of.f t5).bind fun bt6 => ((gnomonlaw20_float.f 4613937818241073152).bind fun t7 => ((dd_Of.f t7).bind fun bt8 => ((dd_Div.f bt6.1 bt6.2 bt8.1 bt8.2).bind fun bt9 => ((gnomonlaw20_bits.f bt9.1 bt9.2).bind fun bt10 => (if bt4.1 = 4607182418800017408 then (if bt4.2 = 4359484439294640128 then (if bt10.1 = 4599676419421066581 then ((gnomonlaw20_pair.f bt4.1 bt4.2).bind fun bt11 => ((dd_Form.f bt11.1 bt11.2).bind fun t12 => (if t12 = true then ((gnomonlaw20_pair.f bt4.1 bt4.2).bind fun bt13 => ((gnomonlaw20_float.f 4607182418800017408).bind fun t14 => ((dd_Of.f t14).bind fun bt15 => ((dd_Cmp.f bt13.1 bt13.2 bt15.1 bt15.2).bind fun t16 => (some (t16 == 1)))))) else (some false)))) else (some false)) else (some false)) else (some false)))))))))))
theorem gnomonlaw20_awake.c  {r : Bool} (h : gnomonlaw20_awake.f = some r) : Con Tryd.prog Gw 8 [] (· = .s (.b r)) := by
 unfold gnomonlaw20_awake.f at h
 obtain ⟨t1, A1, h⟩ := bnd h
 obtain ⟨t2, A2, h⟩ := bnd h
 obtain ⟨bt3, A3, h⟩ := bnd h
 obtain ⟨bt4, A4, h⟩ := bnd h
 obtain ⟨t5, A5, h⟩ := bnd h
 obtain ⟨bt6, A6, h⟩ := bnd h
 obtain ⟨t7, A7, h⟩ := bnd h
 obtain ⟨bt8, A8, h⟩ := bnd h
 obtain ⟨bt9, A9, h⟩ := bnd h
 obtain ⟨bt10, A10, h⟩ := bnd h
 rcases ite_e h with ⟨c11, h⟩ | ⟨c11, h⟩
 ·rcases ite_e h with ⟨c12, h⟩ | ⟨c12, h⟩
  ·rcases ite_e h with ⟨c13, h⟩ | ⟨c13, h⟩
   ·obtain ⟨bt11, A14, h⟩ := bnd h
    obtain ⟨t12, A15, h⟩ := bnd h
    rcases ite_e h with ⟨c16, h⟩ | ⟨c16, h⟩
    ·obtain ⟨bt13, A17, h⟩ := bnd h
     obtain ⟨t14, A18, h⟩ := bnd h
     obtain ⟨bt15, A19, h⟩ := bnd h
     obtain ⟨t16, A20, h⟩ := bnd h
     have h := si h; subst h
     exact pth Tryd.func8 [.r (.s (.fl .f64 t1)), .r (.s (.fl .f64 t2)), .r (.ag [.fl .f64 bt3.1, .fl .f64 bt3.2]), .r (.ag [.i .u64 bt4.1, .i .u64 bt4.2]), .r (.s (.fl .f64 t5)), .r (.ag [.fl .f64 bt6.1, .fl .f64 bt6.2]), .r (.s (.fl .f64 t7)), .r (.ag [.fl .f64 bt8.1, .fl .f64 bt8.2]), .r (.ag [.fl .f64 bt9.1, .fl .f64 bt9.2]), .r (.ag [.i .u64 bt10.1, .i .u64 bt10.2]), .br true, .br true, .br true, .br true, .br true, .br true, .br true, .br true, .br true, .br true, .r (.ag [.fl .f64 bt11.1, .fl .f64 bt11.2]), .br true, .r (.s (.b t12)), .br true, .br true, .br true, .r (.ag [.fl .f64 bt13.1, .fl .f64 bt13.2]), .br true, .r (.s (.fl .f64 t14)), .br true, .r (.ag [.fl .f64 bt15.1, .fl .f64 bt15.2]), .br true, .r (.s (.i .i64 t16)), .br true, .br true] (fun e => ai (gnomonlaw20_float.c A1) (ai (gnomonlaw20_float.c A2) (ai (dd_Sum.c A3) (ai (gnomonlaw20_bits.c A4) (ai (gnomonlaw20_float.c A5) (ai (dd_Of.c A6) (ai (gnomonlaw20_float.c A7) (ai (dd_Of.c A8) (ai (dd_Div.c A9) (ai (gnomonlaw20_bits.c A10) (ai (q1 c11) (ai (q1 c11) (ai (q1 c11) (ai (q1 c11) (ai (q1 c12) (ai (q1 c12) (ai (q1 c12) (ai (q1 c12) (ai (q1 c13) (ai (q1 c13) (ai (gnomonlaw20_pair.c A14) (ai (q1 c13) (ai (dd_Form.c A15) (ai (q1 c13) (ai c16 (ai c16 (ai (gnomonlaw20_pair.c A17) (ai c16 (ai (gnomonlaw20_float.c A18) (ai c16 (ai (dd_Of.c A19) (ai c16 (ai (dd_Cmp.c A20) (ai c16 (ai c16 e))))))))))))))))))))))))))))))))))) (by kernel_rfl)
    ·have h := si h; subst h
     exact pth Tryd.func8 [.r (.s (.fl .f64 t1)), .r (.s (.fl .f64 t2)), .r (.ag [.fl .f64 bt3.1, .fl .f64 bt3.2]), .r (.ag [.i .u64 bt4.1, .i .u64 bt4.2]), .r (.s (.fl .f64 t5)), .r (.ag [.fl .f64 bt6.1, .fl .f64 bt6.2]), .r (.s (.fl .f64 t7)), .r (.ag [.fl .f64 bt8.1, .fl .f64 bt8.2]), .r (.ag [.fl .f64 bt9.1, .fl .f64 bt9.2]), .r (.ag [.i .u64 bt10.1, .i .u64 bt10.2]), .br true, .br true, .br true, .br true, .br true, .br true, .br true, .br true, .br true, .br true, .r (.ag [.fl .f64 bt11.1, .fl .f64 bt11.2]), .br true, .r (.s (.b t12)), .br true, .br false, .br false, .br false, .br false, .br false, .br false, .br false] (fun e => ai (gnomonlaw20_float.c A1) (ai (gnomonlaw20_float.c A2) (ai (dd_Sum.c A3) (ai (gnomonlaw20_bits.c A4) (ai (gnomonlaw20_float.c A5) (ai (dd_Of.c A6) (ai (gnomonlaw20_float.c A7) (ai (dd_Of.c A8) (ai (dd_Div.c A9) (ai (gnomonlaw20_bits.c A10) (ai (q1 c11) (ai (q1 c11) (ai (q1 c11) (ai (q1 c11) (ai (q1 c12) (ai (q1 c12) (ai (q1 c12) (ai (q1 c12) (ai (q1 c13) (ai (q1 c13) (ai (gnomonlaw20_pair.c A14) (ai (q1 c13) (ai (dd_Form.c A15) (ai (q1 c13) (ai (z0 c16) (ai (z0 c16) (ai (z0 c16) (ai (z0 c16) (ai (z0 c16) (ai (z0 c16) (ai (z0 c16) e))))))))))))))))))))))))))))))) (by kernel_rfl)
   ·have h := si h; subst h
    exact pth Tryd.func8 [.r (.s (.fl .f64 t1)), .r (.s (.fl .f64 t2)), .r (.ag [.fl .f64 bt3.1, .fl .f64 bt3.2]), .r (.ag [.i .u64 bt4.1, .i .u64 bt4.2]), .r (.s (.fl .f64 t5)), .r (.ag [.fl .f64 bt6.1, .fl .f64 bt6.2]), .r (.s (.fl .f64 t7)), .r (.ag [.fl .f64 bt8.1, .fl .f64 bt8.2]), .r (.ag [.fl .f64 bt9.1, .fl .f64 bt9.2]), .r (.ag [.i .u64 bt10.1, .i .u64 bt10.2]), .br true, .br true, .br true, .br true, .br true, .br true, .br true, .br true, .br false, .br false, .br false, .br false, .br false, .br false, .br false, .br false, .br false, .br false, .br false] (fun e => ai (gnomonlaw20_float.c A1) (ai (gnomonlaw20_float.c A2) (ai (dd_Sum.c A3) (ai (gnomonlaw20_bits.c A4) (ai (gnomonlaw20_float.c A5) (ai (dd_Of.c A6) (ai (gnomonlaw20_float.c A7) (ai (dd_Of.c A8) (ai (dd_Div.c A9) (ai (gnomonlaw20_bits.c A10) (ai (q1 c11) (ai (q1 c11) (ai (q1 c11) (ai (q1 c11) (ai (q1 c12) (ai (q1 c12) (ai (q1 c12) (ai (q1 c12) (ai (q0 c13) (ai (q0 c13) (ai (q0 c13) (ai (q0 c13) (ai ff (ai ff (ai ff (ai ff (ai ff (ai ff (ai ff e))))))))))))))))))))))))))))) (by kernel_rfl)
  ·have h := si h; subst h
   exact pth Tryd.func8 [.r (.s (.fl .f64 t1)), .r (.s (.fl .f64 t2)), .r (.ag [.fl .f64 bt3.1, .fl .f64 bt3.2]), .r (.ag [.i .u64 bt4.1, .i .u64 bt4.2]), .r (.s (.fl .f64 t5)), .r (.ag [.fl .f64 bt6.1, .fl .f64 bt6.2]), .r (.s (.fl .f64 t7)), .r (.ag [.fl .f64 bt8.1, .fl .f64 bt8.2]), .r (.ag [.fl .f64 bt9.1, .fl .f64 bt9.2]), .r (.ag [.i .u64 bt10.1, .i .u64 bt10.2]), .br true, .br true, .br true, .br true, .br false, .br false, .br false, .br false, .br false, .br false, .br false, .br false, .br false, .br false, .br false, .br false, .br false, .br false, .br false] (fun e => ai (gnomonlaw20_float.c A1) (ai (gnomonlaw20_float.c A2) (ai (dd_Sum.c A3) (ai (gnomonlaw20_bits.c A4) (ai (gnomonlaw20_float.c A5) (ai (dd_Of.c A6) (ai (gnomonlaw20_float.c A7) (ai (dd_Of.c A8) (ai (dd_Div.c A9) (ai (gnomonlaw20_bits.c A10) (ai (q1 c11) (ai (q1 c11) (ai (q1 c11) (ai (q1 c11) (ai (q0 c12) (ai (q0 c12) (ai (q0 c12) (ai (q0 c12) (ai ff (ai ff (ai ff (ai ff (ai ff (ai ff (ai ff (ai ff (ai ff (ai ff (ai ff e))))))))))))))))))))))))))))) (by kernel_rfl)
 ·have h := si h; subst h
  exact pth Tryd.func8 [.r (.s (.fl .f64 t1)), .r (.s (.fl .f64 t2)), .r (.ag [.fl .f64 bt3.1, .fl .f64 bt3.2]), .r (.ag [.i .u64 bt4.1, .i .u64 bt4.2]), .r (.s (.fl .f64 t5)), .r (.ag [.fl .f64 bt6.1, .fl .f64 bt6.2]), .r (.s (.fl .f64 t7)), .r (.ag [.fl .f64 bt8.1, .fl .f64 bt8.2]), .r (.ag [.fl .f64 bt9.1, .fl .f64 bt9.2]), .r (.ag [.i .u64 bt10.1, .i .u64 bt10.2]), .br false, .br false, .br false, .br false, .br false, .br false, .br false, .br false, .br false, .br false, .br false, .br false, .br false, .br false, .br false, .br false, .br false, .br false, .br false] (fun e => ai (gnomonlaw20_float.c A1) (ai (gnomonlaw20_float.c A2) (ai (dd_Sum.c A3) (ai (gnomonlaw20_bits.c A4) (ai (gnomonlaw20_float.c A5) (ai (dd_Of.c A6) (ai (gnomonlaw20_float.c A7) (ai (dd_Of.c A8) (ai (dd_Div.c A9) (ai (gnomonlaw20_bits.c A10) (ai (q0 c11) (ai (q0 c11) (ai (q0 c11) (ai (q0 c11) (ai ff (ai ff (ai ff (ai ff (ai ff (ai ff (ai ff (ai ff (ai ff (ai ff (ai ff (ai ff (ai ff (ai ff (ai ff e))))))))))))))))))))))))))))) (by kernel_rfl)
end Go.Proofs.YtapikmfckpgjoaaDoor.PLib
