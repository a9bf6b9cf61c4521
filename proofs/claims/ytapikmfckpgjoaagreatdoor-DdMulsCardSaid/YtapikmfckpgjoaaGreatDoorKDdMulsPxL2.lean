/- Functions of the program as plain Lean functions (definitions as the print's), and that the machine's calls do what they do (contracts 'X.c', by Px). Condition: math/bits' table is laid. -/
import Derived.Test.YtapikmfckpgjoaaGreatDoorKDdMulsGA
import Derived.Test.YtapikmfckpgjoaaGreatDoorKDdMulsGP
import Derived.Test.YtapikmfckpgjoaaGreatDoorKDdMulsGivenD
import Derived.Test.YtapikmfckpgjoaaGreatDoorKDdMulsRp5
import Derived.Test.YtapikmfckpgjoaaGreatDoorKDdMulsPxL1
set_option linter.unusedVariables false
namespace Go.Proofs.YtapikmfckpgjoaaGreatDoor.PLib
open Go Go.RowKit Go.Proofs.YtapikmfckpgjoaaGreatDoorW.PrintWords Go.Proofs.YtapikmfckpgjoaaGreatDoorW.PrintMore Go.Proofs.YtapikmfckpgjoaaGreatDoor.Given Go.Proofs.YtapikmfckpgjoaaGreatDoor.Px
def dd_MulFloat.f (a0_0 : Nat) (a0_1 : Nat) (a1 : Nat) : Option (Nat × Nat) := (eft_TwoProd.f a0_0 a1).bind fun bt1 => ((FloatKind.f64.format.mul a0_1 a1).bind fun r2 => ((dd_pair.f bt1.1 r2).bind fun bt3 => ((FloatKind.f64.format.add bt3.2 bt1.2).bind fun r4 => ((dd_pair.f bt3.1 r4).bind fun bt5 => (some (bt5.1, bt5.2))))))
theorem dd_MulFloat.c {a0_0 : Nat} {a0_1 : Nat} {a1 : Nat} {r : Nat × Nat} (h : dd_MulFloat.f a0_0 a0_1 a1 = some r) : Con Tryz.prog Gw 25 [.ag [.fl .f64 a0_0, .fl .f64 a0_1], .s (.fl .f64 a1)] (· = .ag [.fl .f64 r.1, .fl .f64 r.2]) := by
 unfold dd_MulFloat.f at h
 obtain ⟨bt1, A1, h⟩ := bnd h
 obtain ⟨r2, A2, h⟩ := bnd h
 obtain ⟨bt3, A3, h⟩ := bnd h
 obtain ⟨r4, A4, h⟩ := bnd h
 obtain ⟨bt5, A5, h⟩ := bnd h
 have h := si h; subst h
 exact pth Tryz.func25 [.r (.tu [.s (.fl .f64 bt1.1), .s (.fl .f64 bt1.2)]), .r (.s (.fl .f64 r2)), .r (.ag [.fl .f64 bt3.1, .fl .f64 bt3.2]), .r (.s (.fl .f64 r4)), .r (.ag [.fl .f64 bt5.1, .fl .f64 bt5.2])] (fun e => ai (eft_TwoProd.c A1) (ai A2 (ai (dd_pair.c A3) (ai A4 (ai (dd_pair.c A5) e))))) (by kernel_rfl)
def dd_Sqr.f (a0_0 : Nat) (a0_1 : Nat) : Option (Nat × Nat) := (dd_Mul.f a0_0 a0_1 a0_0 a0_1).bind fun bt1 => (some (bt1.1, bt1.2))
theorem dd_Sqr.c {a0_0 : Nat} {a0_1 : Nat} {r : Nat × Nat} (h : dd_Sqr.f a0_0 a0_1 = some r) : Con Tryz.prog Gw 32 [.ag [.fl .f64 a0_0, .fl .f64 a0_1]] (· = .ag [.fl .f64 r.1, .fl .f64 r.2]) := by
 unfold dd_Sqr.f at h
 obtain ⟨bt1, A1, h⟩ := bnd h
 have h := si h; subst h
 exact pth Tryz.func32 [.r (.ag [.fl .f64 bt1.1, .fl .f64 bt1.2])] (fun e => ai (dd_Mul.c A1) e) (by kernel_rfl)
def dd_Div.f (a0_0 : Nat) (a0_1 : Nat) (a1_0 : Nat) (a1_1 : Nat) : Option (Nat × Nat) := (FloatKind.f64.format.div a0_0 a1_0).bind fun r1 => ((dd_MulFloat.f a1_0 a1_1 r1).bind fun bt2 => ((FloatKind.f64.format.sub a0_0 bt2.1).bind fun r3 => ((FloatKind.f64.format.sub a0_1 bt2.2).bind fun r4 => ((FloatKind.f64.format.add r3 r4).bind fun r5 => ((FloatKind.f64.format.div r5 a1_0).bind fun r6 => ((dd_pair.f r1 r6).bind fun bt7 => (some (bt7.1, bt7.2))))))))
theorem dd_Div.c {a0_0 : Nat} {a0_1 : Nat} {a1_0 : Nat} {a1_1 : Nat} {r : Nat × Nat} (h : dd_Div.f a0_0 a0_1 a1_0 a1_1 = some r) : Con Tryz.prog Gw 33 [.ag [.fl .f64 a0_0, .fl .f64 a0_1], .ag [.fl .f64 a1_0, .fl .f64 a1_1]] (· = .ag [.fl .f64 r.1, .fl .f64 r.2]) := by
 unfold dd_Div.f at h
 obtain ⟨r1, A1, h⟩ := bnd h
 obtain ⟨bt2, A2, h⟩ := bnd h
 obtain ⟨r3, A3, h⟩ := bnd h
 obtain ⟨r4, A4, h⟩ := bnd h
 obtain ⟨r5, A5, h⟩ := bnd h
 obtain ⟨r6, A6, h⟩ := bnd h
 obtain ⟨bt7, A7, h⟩ := bnd h
 have h := si h; subst h
 exact pth Tryz.func33 [.r (.s (.fl .f64 r1)), .r (.ag [.fl .f64 bt2.1, .fl .f64 bt2.2]), .r (.s (.fl .f64 r3)), .r (.s (.fl .f64 r4)), .r (.s (.fl .f64 r5)), .r (.s (.fl .f64 r6)), .r (.ag [.fl .f64 bt7.1, .fl .f64 bt7.2])] (fun e => ai A1 (ai (dd_MulFloat.c A2) (ai A3 (ai A4 (ai A5 (ai A6 (ai (dd_pair.c A7) e))))))) (by kernel_rfl)
def gnomonlaw20_float.f (a0 : Int) : Option (Nat) := some a0.toNat
theorem gnomonlaw20_float.c {a0 : Int} {r : Nat} (h : gnomonlaw20_float.f a0 = some r) : Con Tryz.prog Gw 14 [.s (.i .u64 a0)] (· = .s (.fl .f64 r)) := by
 unfold gnomonlaw20_float.f at h
 have h := si h; subst h
 exact pth Tryz.func14 [.x (.s (.fl .f64 a0.toNat))] (fun e => ai (fl_from a0) e) (by kernel_rfl)
def gnomonlaw20_pair.f (a0_0 : Int) (a0_1 : Int) : Option (Nat × Nat) := (gnomonlaw20_float.f a0_0).bind fun t1 => ((gnomonlaw20_float.f a0_1).bind fun t2 => (some (t1, t2)))
theorem gnomonlaw20_pair.c {a0_0 : Int} {a0_1 : Int} {r : Nat × Nat} (h : gnomonlaw20_pair.f a0_0 a0_1 = some r) : Con Tryz.prog Gw 21 [.ag [.i .u64 a0_0, .i .u64 a0_1]] (· = .ag [.fl .f64 r.1, .fl .f64 r.2]) := by
 unfold gnomonlaw20_pair.f at h
 obtain ⟨t1, A1, h⟩ := bnd h
 obtain ⟨t2, A2, h⟩ := bnd h
 have h := si h; subst h
 exact pth Tryz.func21 [.r (.s (.fl .f64 t1)), .r (.s (.fl .f64 t2))] (fun e => ai (gnomonlaw20_float.c A1) (ai (gnomonlaw20_float.c A2) e)) (by kernel_rfl)
def gnomonlaw20_bits.f (a0_0 : Nat) (a0_1 : Nat) : Option (Int × Int) := some ((a0_0 : Int), (a0_1 : Int))
theorem gnomonlaw20_bits.c {a0_0 : Nat} {a0_1 : Nat} {r : Int × Int} (h : gnomonlaw20_bits.f a0_0 a0_1 = some r) : Con Tryz.prog Gw 11 [.ag [.fl .f64 a0_0, .fl .f64 a0_1]] (· = .ag [.i .u64 r.1, .i .u64 r.2]) := by
 unfold gnomonlaw20_bits.f at h
 have h := si h; subst h
 exact pth Tryz.func11 [.x (.s (.i .u64 (a0_0 : Int))), .x (.s (.i .u64 (a0_1 : Int)))] (fun e => ai (fl_bits a0_0) (ai (fl_bits a0_1) e)) (by kernel_rfl)
def gnomonlaw20_awake.f  : Option (Bool) := (gnomonlaw20_float.f 4607182418800017408).bind fun t1 => ((gnomonlaw20_float.f 4359484439294640128).bind fun t2 => ((dd_Sum.f t1 t2).bind fun bt3 => ((gnomonlaw20_bits.f bt3.1 bt3.2).bind fun bt4 => ((gnomonlaw20_float.f 4607182418800017408).bind fun t5 => ((dd_Of.f t5).bind fun bt6 => ((gnomonlaw20_float.f 4613937818241073152).bind fun t7 => ((dd_Of.f t7).bind fun bt8 => ((dd_Div.f bt6.1 bt6.2 bt8.1 bt8.2).bind fun bt9 => ((gnomonlaw20_bits.f bt9.1 bt9.2).bind fun bt10 => (if bt4.1 = 4607182418800017408 then (if bt4.2 = 4359484439294640128 then (if bt10.1 = 4599676419421066581 then ((gnomonlaw20_pair.f bt4.1 bt4.2).bind fun bt11 => ((dd_Form.f bt11.1 bt11.2).bind fun t12 => (if t12 = true then ((gnomonlaw20_pair.f bt4.1 bt4.2).bind fun bt13 => ((gnomonlaw20_float.f 4607182418800017408).bind fun t14 => ((dd_Of.f t14).bind fun bt15 => ((dd_Cmp.f bt13.1 bt13.2 bt15.1 bt15.2).bind fun t16 => (some (t16 == 1)))))) else (some false)))) else (some false)) else (some false)) else (some false)))))))))))
theorem gnomonlaw20_awake.c  {r : Bool} (h : gnomonlaw20_awake.f = some r) : Con Tryz.prog Gw 9 [] (· = .s (.b r)) := by
 unfold gnomonlaw20_awake.f at h
 obtain ⟨t1, A1, h⟩ := bnd h
 obtain ⟨t2, A2, h⟩ := bnd h
 obtain ⟨bt3, A3, h⟩ := bnd h
 obtain ⟨bt4, A4, h⟩ := bnd h
 obtain ⟨t5, A5, h⟩ := bnd h
 obtain ⟨bt6, A6, h⟩ := bnd h
 obtain ⟨t7, A7, h⟩ := bnd h
 obtain ⟨bt8, A8, h⟩ := bnd h
 obtain ⟨bt9, A9, h⟩ := bnd h
 obtain ⟨bt10, A10, h⟩ := bnd h
 rcases ite_e h with ⟨c11, h⟩ | ⟨c11, h⟩
 ·rcases ite_e h with ⟨c12, h⟩ | ⟨c12, h⟩
  ·rcases ite_e h with ⟨c13, h⟩ | ⟨c13, h⟩
   ·obtain ⟨bt11, A14, h⟩ := bnd h
    obtain ⟨t12, A15, h⟩ := bnd h
    rcases ite_e h with ⟨c16, h⟩ | ⟨c16, h⟩
    ·obtain ⟨bt13, A17, h⟩ := bnd h
     obtain ⟨t14, A18, h⟩ := bnd h
     obtain ⟨bt15, A19, h⟩ := bnd h
     obtain ⟨t16, A20, h⟩ := bnd h
     have h := si h; subst h
     exact pth Tryz.func9 [.r (.s (.fl .f64 t1)), .r (.s (.fl .f64 t2)), .r (.ag [.fl .f64 bt3.1, .fl .f64 bt3.2]), .r (.ag [.i .u64 bt4.1, .i .u64 bt4.2]), .r (.s (.fl .f64 t5)), .r (.ag [.fl .f64 bt6.1, .fl .f64 bt6.2]), .r (.s (.fl .f64 t7)), .r (.ag [.fl .f64 bt8.1, .fl .f64 bt8.2]), .r (.ag [.fl .f64 bt9.1, .fl .f64 bt9.2]), .r (.ag [.i .u64 bt10.1, .i .u64 bt10.2]), .br true, .br true, .br true, .br true, .br true, .br true, .br true, .br true, .br true, .br true, .r (.ag [.fl .f64 bt11.1, .fl .f64 bt11.2]), .br true, .r (.s (.b t12)), .br true, .br true, .br true, .r (.ag [.fl .f64 bt13.1, .fl .f64 bt13.2]), .br true, .r (.s (.fl .f64 t14)), .br true, .r (.ag [.fl .f64 bt15.1, .fl .f64 bt15.2]), .br true, .r (.s (.i .i64 t16)), .br true, .br true] (fun e => ai (gnomonlaw20_float.c A1) (ai (gnomonlaw20_float.c A2) (ai (dd_Sum.c A3) (ai (gnomonlaw20_bits.c A4) (ai (gnomonlaw20_float.c A5) (ai (dd_Of.c A6) (ai (gnomonlaw20_float.c A7) (ai (dd_Of.c A8) (ai (dd_Div.c A9) (ai (gnomonlaw20_bits.c A10) (ai (q1 c11) (ai (q1 c11) (ai (q1 c11) (ai (q1 c11) (ai (q1 c12) (ai (q1 c12) (ai (q1 c12) (ai (q1 c12) (ai (q1 c13) (ai (q1 c13) (ai (gnomonlaw20_pair.c A14) (ai (q1 c13) (ai (dd_Form.c A15) (ai (q1 c13) (ai c16 (ai c16 (ai (gnomonlaw20_pair.c A17) (ai c16 (ai (gnomonlaw20_float.c A18) (ai c16 (ai (dd_Of.c A19) (ai c16 (ai (dd_Cmp.c A20) (ai c16 (ai c16 e))))))))))))))))))))))))))))))))))) (by kernel_rfl)
    ·have h := si h; subst h
     exact pth Tryz.func9 [.r (.s (.fl .f64 t1)), .r (.s (.fl .f64 t2)), .r (.ag [.fl .f64 bt3.1, .fl .f64 bt3.2]), .r (.ag [.i .u64 bt4.1, .i .u64 bt4.2]), .r (.s (.fl .f64 t5)), .r (.ag [.fl .f64 bt6.1, .fl .f64 bt6.2]), .r (.s (.fl .f64 t7)), .r (.ag [.fl .f64 bt8.1, .fl .f64 bt8.2]), .r (.ag [.fl .f64 bt9.1, .fl .f64 bt9.2]), .r (.ag [.i .u64 bt10.1, .i .u64 bt10.2]), .br true, .br true, .br true, .br true, .br true, .br true, .br true, .br true, .br true, .br true, .r (.ag [.fl .f64 bt11.1, .fl .f64 bt11.2]), .br true, .r (.s (.b t12)), .br true, .br false, .br false, .br false, .br false, .br false, .br false, .br false] (fun e => ai (gnomonlaw20_float.c A1) (ai (gnomonlaw20_float.c A2) (ai (dd_Sum.c A3) (ai (gnomonlaw20_bits.c A4) (ai (gnomonlaw20_float.c A5) (ai (dd_Of.c A6) (ai (gnomonlaw20_float.c A7) (ai (dd_Of.c A8) (ai (dd_Div.c A9) (ai (gnomonlaw20_bits.c A10) (ai (q1 c11) (ai (q1 c11) (ai (q1 c11) (ai (q1 c11) (ai (q1 c12) (ai (q1 c12) (ai (q1 c12) (ai (q1 c12) (ai (q1 c13) (ai (q1 c13) (ai (gnomonlaw20_pair.c A14) (ai (q1 c13) (ai (dd_Form.c A15) (ai (q1 c13) (ai (z0 c16) (ai (z0 c16) (ai (z0 c16) (ai (z0 c16) (ai (z0 c16) (ai (z0 c16) (ai (z0 c16) e))))))))))))))))))))))))))))))) (by kernel_rfl)
   ·have h := si h; subst h
    exact pth Tryz.func9 [.r (.s (.fl .f64 t1)), .r (.s (.fl .f64 t2)), .r (.ag [.fl .f64 bt3.1, .fl .f64 bt3.2]), .r (.ag [.i .u64 bt4.1, .i .u64 bt4.2]), .r (.s (.fl .f64 t5)), .r (.ag [.fl .f64 bt6.1, .fl .f64 bt6.2]), .r (.s (.fl .f64 t7)), .r (.ag [.fl .f64 bt8.1, .fl .f64 bt8.2]), .r (.ag [.fl .f64 bt9.1, .fl .f64 bt9.2]), .r (.ag [.i .u64 bt10.1, .i .u64 bt10.2]), .br true, .br true, .br true, .br true, .br true, .br true, .br true, .br true, .br false, .br false, .br false, .br false, .br false, .br false, .br false, .br false, .br false, .br false, .br false] (fun e => ai (gnomonlaw20_float.c A1) (ai (gnomonlaw20_float.c A2) (ai (dd_Sum.c A3) (ai (gnomonlaw20_bits.c A4) (ai (gnomonlaw20_float.c A5) (ai (dd_Of.c A6) (ai (gnomonlaw20_float.c A7) (ai (dd_Of.c A8) (ai (dd_Div.c A9) (ai (gnomonlaw20_bits.c A10) (ai (q1 c11) (ai (q1 c11) (ai (q1 c11) (ai (q1 c11) (ai (q1 c12) (ai (q1 c12) (ai (q1 c12) (ai (q1 c12) (ai (q0 c13) (ai (q0 c13) (ai (q0 c13) (ai (q0 c13) (ai ff (ai ff (ai ff (ai ff (ai ff (ai ff (ai ff e))))))))))))))))))))))))))))) (by kernel_rfl)
  ·have h := si h; subst h
   exact pth Tryz.func9 [.r (.s (.fl .f64 t1)), .r (.s (.fl .f64 t2)), .r (.ag [.fl .f64 bt3.1, .fl .f64 bt3.2]), .r (.ag [.i .u64 bt4.1, .i .u64 bt4.2]), .r (.s (.fl .f64 t5)), .r (.ag [.fl .f64 bt6.1, .fl .f64 bt6.2]), .r (.s (.fl .f64 t7)), .r (.ag [.fl .f64 bt8.1, .fl .f64 bt8.2]), .r (.ag [.fl .f64 bt9.1, .fl .f64 bt9.2]), .r (.ag [.i .u64 bt10.1, .i .u64 bt10.2]), .br true, .br true, .br true, .br true, .br false, .br false, .br false, .br false, .br false, .br false, .br false, .br false, .br false, .br false, .br false, .br false, .br false, .br false, .br false] (fun e => ai (gnomonlaw20_float.c A1) (ai (gnomonlaw20_float.c A2) (ai (dd_Sum.c A3) (ai (gnomonlaw20_bits.c A4) (ai (gnomonlaw20_float.c A5) (ai (dd_Of.c A6) (ai (gnomonlaw20_float.c A7) (ai (dd_Of.c A8) (ai (dd_Div.c A9) (ai (gnomonlaw20_bits.c A10) (ai (q1 c11) (ai (q1 c11) (ai (q1 c11) (ai (q1 c11) (ai (q0 c12) (ai (q0 c12) (ai (q0 c12) (ai (q0 c12) (ai ff (ai ff (ai ff (ai ff (ai ff (ai ff (ai ff (ai ff (ai ff (ai ff (ai ff e))))))))))))))))))))))))))))) (by kernel_rfl)
 ·have h := si h; subst h
  exact pth Tryz.func9 [.r (.s (.fl .f64 t1)), .r (.s (.fl .f64 t2)), .r (.ag [.fl .f64 bt3.1, .fl .f64 bt3.2]), .r (.ag [.i .u64 bt4.1, .i .u64 bt4.2]), .r (.s (.fl .f64 t5)), .r (.ag [.fl .f64 bt6.1, .fl .f64 bt6.2]), .r (.s (.fl .f64 t7)), .r (.ag [.fl .f64 bt8.1, .fl .f64 bt8.2]), .r (.ag [.fl .f64 bt9.1, .fl .f64 bt9.2]), .r (.ag [.i .u64 bt10.1, .i .u64 bt10.2]), .br false, .br false, .br false, .br false, .br false, .br false, .br false, .br false, .br false, .br false, .br false, .br false, .br false, .br false, .br false, .br false, .br false, .br false, .br false] (fun e => ai (gnomonlaw20_float.c A1) (ai (gnomonlaw20_float.c A2) (ai (dd_Sum.c A3) (ai (gnomonlaw20_bits.c A4) (ai (gnomonlaw20_float.c A5) (ai (dd_Of.c A6) (ai (gnomonlaw20_float.c A7) (ai (dd_Of.c A8) (ai (dd_Div.c A9) (ai (gnomonlaw20_bits.c A10) (ai (q0 c11) (ai (q0 c11) (ai (q0 c11) (ai (q0 c11) (ai ff (ai ff (ai ff (ai ff (ai ff (ai ff (ai ff (ai ff (ai ff (ai ff (ai ff (ai ff (ai ff (ai ff (ai ff e))))))))))))))))))))))))))))) (by kernel_rfl)
end Go.Proofs.YtapikmfckpgjoaaGreatDoor.PLib
