/- Functions of the program as plain Lean functions (definitions as the print's), and that the machine's calls do what they do (contracts 'X.c', by Px). Condition: math/bits' table is laid. -/
import Derived.Test.YtapikmfckpgjoaaGreatDoorKDdMulsGA
import Derived.Test.YtapikmfckpgjoaaGreatDoorKDdMulsGP
import Derived.Test.YtapikmfckpgjoaaGreatDoorKDdMulsGivenD
import Derived.Test.YtapikmfckpgjoaaGreatDoorKDdMulsRp5
set_option linter.unusedVariables false
namespace Go.Proofs.YtapikmfckpgjoaaGreatDoor.PLib
open Go Go.RowKit Go.Proofs.YtapikmfckpgjoaaGreatDoorW.PrintWords Go.Proofs.YtapikmfckpgjoaaGreatDoorW.PrintMore Go.Proofs.YtapikmfckpgjoaaGreatDoor.Given Go.Proofs.YtapikmfckpgjoaaGreatDoor.Px
def eft_TwoSum.f (a0 : Nat) (a1 : Nat) : Option (Nat × Nat) := (FloatKind.f64.format.add a0 a1).bind fun r1 => ((FloatKind.f64.format.sub r1 a0).bind fun r2 => ((FloatKind.f64.format.sub r1 r2).bind fun r3 => ((FloatKind.f64.format.sub a0 r3).bind fun r4 => ((FloatKind.f64.format.sub a1 r2).bind fun r5 => ((FloatKind.f64.format.add r4 r5).bind fun r6 => (some (r1, r6)))))))
theorem eft_TwoSum.c {a0 : Nat} {a1 : Nat} {r : Nat × Nat} (h : eft_TwoSum.f a0 a1 = some r) : Con Tryz.prog Gw 58 [.s (.fl .f64 a0), .s (.fl .f64 a1)] (· = .tu [.s (.fl .f64 r.1), .s (.fl .f64 r.2)]) := by
 unfold eft_TwoSum.f at h
 obtain ⟨r1, A1, h⟩ := bnd h
 obtain ⟨r2, A2, h⟩ := bnd h
 obtain ⟨r3, A3, h⟩ := bnd h
 obtain ⟨r4, A4, h⟩ := bnd h
 obtain ⟨r5, A5, h⟩ := bnd h
 obtain ⟨r6, A6, h⟩ := bnd h
 have h := si h; subst h
 exact pth Tryz.func58 [.r (.s (.fl .f64 r1)), .r (.s (.fl .f64 r2)), .r (.s (.fl .f64 r3)), .r (.s (.fl .f64 r4)), .r (.s (.fl .f64 r5)), .r (.s (.fl .f64 r6))] (fun e => ai A1 (ai A2 (ai A3 (ai A4 (ai A5 (ai A6 e)))))) (by kernel_rfl)
def eft_FastTwoSum.f (a0 : Nat) (a1 : Nat) : Option (Nat × Nat) := (FloatKind.f64.format.add a0 a1).bind fun r1 => ((FloatKind.f64.format.sub r1 a0).bind fun r2 => ((FloatKind.f64.format.sub a1 r2).bind fun r3 => (some (r1, r3))))
theorem eft_FastTwoSum.c {a0 : Nat} {a1 : Nat} {r : Nat × Nat} (h : eft_FastTwoSum.f a0 a1 = some r) : Con Tryz.prog Gw 68 [.s (.fl .f64 a0), .s (.fl .f64 a1)] (· = .tu [.s (.fl .f64 r.1), .s (.fl .f64 r.2)]) := by
 unfold eft_FastTwoSum.f at h
 obtain ⟨r1, A1, h⟩ := bnd h
 obtain ⟨r2, A2, h⟩ := bnd h
 obtain ⟨r3, A3, h⟩ := bnd h
 have h := si h; subst h
 exact pth Tryz.func68 [.r (.s (.fl .f64 r1)), .r (.s (.fl .f64 r2)), .r (.s (.fl .f64 r3))] (fun e => ai A1 (ai A2 (ai A3 e))) (by kernel_rfl)
def eft_Split.f (a0 : Nat) : Option (Nat × Nat) := (FloatKind.f64.format.mul 4728779608772575232 a0).bind fun r1 => ((FloatKind.f64.format.sub r1 a0).bind fun r2 => ((FloatKind.f64.format.sub r1 r2).bind fun r3 => ((FloatKind.f64.format.sub a0 r3).bind fun r4 => (some (r3, r4)))))
theorem eft_Split.c {a0 : Nat} {r : Nat × Nat} (h : eft_Split.f a0 = some r) : Con Tryz.prog Gw 67 [.s (.fl .f64 a0)] (· = .tu [.s (.fl .f64 r.1), .s (.fl .f64 r.2)]) := by
 unfold eft_Split.f at h
 obtain ⟨r1, A1, h⟩ := bnd h
 obtain ⟨r2, A2, h⟩ := bnd h
 obtain ⟨r3, A3, h⟩ := bnd h
 obtain ⟨r4, A4, h⟩ := bnd h
 have h := si h; subst h
 exact pth Tryz.func67 [.r (.s (.fl .f64 r1)), .r (.s (.fl .f64 r2)), .r (.s (.fl .f64 r3)), .r (.s (.fl .f64 r4))] (fun e => ai A1 (ai A2 (ai A3 (ai A4 e)))) (by kernel_rfl)
def eft_TwoProd.f (a0 : Nat) (a1 : Nat) : Option (Nat × Nat) := (FloatKind.f64.format.mul a0 a1).bind fun r1 => ((eft_Split.f a0).bind fun bt2 => ((eft_Split.f a1).bind fun bt3 => ((FloatKind.f64.format.mul bt2.1 bt3.1).bind fun r4 => ((FloatKind.f64.format.sub r4 r1).bind fun r5 => ((FloatKind.f64.format.mul bt2.1 bt3.2).bind fun r6 => ((FloatKind.f64.format.add r5 r6).bind fun r7 => ((FloatKind.f64.format.mul bt2.2 bt3.1).bind fun r8 => ((FloatKind.f64.format.add r7 r8).bind fun r9 => ((FloatKind.f64.format.mul bt2.2 bt3.2).bind fun r10 => ((FloatKind.f64.format.add r9 r10).bind fun r11 => (some (r1, r11))))))))))))
theorem eft_TwoProd.c {a0 : Nat} {a1 : Nat} {r : Nat × Nat} (h : eft_TwoProd.f a0 a1 = some r) : Con Tryz.prog Gw 37 [.s (.fl .f64 a0), .s (.fl .f64 a1)] (· = .tu [.s (.fl .f64 r.1), .s (.fl .f64 r.2)]) := by
 unfold eft_TwoProd.f at h
 obtain ⟨r1, A1, h⟩ := bnd h
 obtain ⟨bt2, A2, h⟩ := bnd h
 obtain ⟨bt3, A3, h⟩ := bnd h
 obtain ⟨r4, A4, h⟩ := bnd h
 obtain ⟨r5, A5, h⟩ := bnd h
 obtain ⟨r6, A6, h⟩ := bnd h
 obtain ⟨r7, A7, h⟩ := bnd h
 obtain ⟨r8, A8, h⟩ := bnd h
 obtain ⟨r9, A9, h⟩ := bnd h
 obtain ⟨r10, A10, h⟩ := bnd h
 obtain ⟨r11, A11, h⟩ := bnd h
 have h := si h; subst h
 exact pth Tryz.func37 [.r (.s (.fl .f64 r1)), .r (.tu [.s (.fl .f64 bt2.1), .s (.fl .f64 bt2.2)]), .r (.tu [.s (.fl .f64 bt3.1), .s (.fl .f64 bt3.2)]), .r (.s (.fl .f64 r4)), .r (.s (.fl .f64 r5)), .r (.s (.fl .f64 r6)), .r (.s (.fl .f64 r7)), .r (.s (.fl .f64 r8)), .r (.s (.fl .f64 r9)), .r (.s (.fl .f64 r10)), .r (.s (.fl .f64 r11))] (fun e => ai A1 (ai (eft_Split.c A2) (ai (eft_Split.c A3) (ai A4 (ai A5 (ai A6 (ai A7 (ai A8 (ai A9 (ai A10 (ai A11 e))))))))))) (by kernel_rfl)
def math_Abs.f (a0 : Nat) : Option (Nat) := some ((Go.bits .andNot .u64 (a0 : Int) 9223372036854775808).toNat)
theorem math_Abs.c {a0 : Nat} {r : Nat} (h : math_Abs.f a0 = some r) : Con Tryz.prog Gw 69 [.s (.fl .f64 a0)] (· = .s (.fl .f64 r)) := by
 unfold math_Abs.f at h
 have h := si h; subst h
 exact pth Tryz.func69 [.x (.s (.i .u64 (a0 : Int))), .x (.s (.fl .f64 ((Go.bits .andNot .u64 (a0 : Int) 9223372036854775808).toNat)))] (fun e => ai (fl_bits a0) (ai (fl_from (Go.bits .andNot .u64 (a0 : Int) 9223372036854775808)) e)) (by kernel_rfl)
def dd_finite.f (a0 : Nat) : Option (Bool) := (math_Abs.f a0).bind fun t1 => (some (FloatKind.f64.format.order t1 9218868437227405311 == some .lt || FloatKind.f64.format.order t1 9218868437227405311 == some .eq))
theorem dd_finite.c {a0 : Nat} {r : Bool} (h : dd_finite.f a0 = some r) : Con Tryz.prog Gw 39 [.s (.fl .f64 a0)] (· = .s (.b r)) := by
 unfold dd_finite.f at h
 obtain ⟨t1, A1, h⟩ := bnd h
 have h := si h; subst h
 exact pth Tryz.func39 [.r (.s (.fl .f64 t1))] (fun e => ai (math_Abs.c A1) e) (by kernel_rfl)
def dd_Form.f (a0_0 : Nat) (a0_1 : Nat) : Option (Bool) := (dd_finite.f a0_0).bind fun t1 => (if t1 = true then ((dd_finite.f a0_1).bind fun t2 => (if t2 = true then ((FloatKind.f64.format.add a0_0 a0_1).bind fun r3 => (some (FloatKind.f64.format.order r3 a0_0 == some .eq))) else (some false))) else (some false))
theorem dd_Form.c {a0_0 : Nat} {a0_1 : Nat} {r : Bool} (h : dd_Form.f a0_0 a0_1 = some r) : Con Tryz.prog Gw 34 [.ag [.fl .f64 a0_0, .fl .f64 a0_1]] (· = .s (.b r)) := by
 unfold dd_Form.f at h
 obtain ⟨t1, A1, h⟩ := bnd h
 rcases ite_e h with ⟨c2, h⟩ | ⟨c2, h⟩
 ·obtain ⟨t2, A3, h⟩ := bnd h
  rcases ite_e h with ⟨c4, h⟩ | ⟨c4, h⟩
  ·obtain ⟨r3, A5, h⟩ := bnd h
   have h := si h; subst h
   exact pth Tryz.func34 [.r (.s (.b t1)), .br true, .br true, .br true, .r (.s (.b t2)), .br true, .br true, .br true, .br true, .br true, .br true, .r (.s (.fl .f64 r3)), .br true, .br true, .br true, .br true] (fun e => ai (dd_finite.c A1) (ai c2 (ai c2 (ai c2 (ai (dd_finite.c A3) (ai c2 (ai c4 (ai c4 (ai c4 (ai c4 (ai c4 (ai A5 (ai c4 (ai c4 (ai c4 (ai c4 e)))))))))))))))) (by kernel_rfl)
  ·have h := si h; subst h
   exact pth Tryz.func34 [.r (.s (.b t1)), .br true, .br true, .br true, .r (.s (.b t2)), .br true, .br false, .br false, .br false, .br false, .br false, .br false, .br false, .br false, .br false] (fun e => ai (dd_finite.c A1) (ai c2 (ai c2 (ai c2 (ai (dd_finite.c A3) (ai c2 (ai (z0 c4) (ai (z0 c4) (ai (z0 c4) (ai (z0 c4) (ai (z0 c4) (ai (z0 c4) (ai (z0 c4) (ai (z0 c4) (ai (z0 c4) e))))))))))))))) (by kernel_rfl)
 ·have h := si h; subst h
  exact pth Tryz.func34 [.r (.s (.b t1)), .br false, .br false, .br false, .br false, .br false, .br false, .br false, .br false, .br false, .br false, .br false, .br false, .br false] (fun e => ai (dd_finite.c A1) (ai (z0 c2) (ai (z0 c2) (ai (z0 c2) (ai (z0 c2) (ai ff (ai ff (ai ff (ai ff (ai ff (ai ff (ai ff (ai ff (ai ff e)))))))))))))) (by kernel_rfl)
def dd_Of.f (a0 : Nat) : Option (Nat × Nat) := (dd_finite.f a0).bind fun t1 => (if t1 = true then (some (a0, 0)) else (some (0, 0)))
theorem dd_Of.c {a0 : Nat} {r : Nat × Nat} (h : dd_Of.f a0 = some r) : Con Tryz.prog Gw 13 [.s (.fl .f64 a0)] (· = .ag [.fl .f64 r.1, .fl .f64 r.2]) := by
 unfold dd_Of.f at h
 obtain ⟨t1, A1, h⟩ := bnd h
 rcases ite_e h with ⟨c2, h⟩ | ⟨c2, h⟩
 ·have h := si h; subst h
  exact pth Tryz.func13 [.r (.s (.b t1)), .br false] (fun e => ai (dd_finite.c A1) (ai (nt1 c2) e)) (by kernel_rfl)
 ·have h := si h; subst h
  exact pth Tryz.func13 [.r (.s (.b t1)), .br true] (fun e => ai (dd_finite.c A1) (ai (nt0 (z0 c2)) e)) (by kernel_rfl)
def dd_pair.f (a0 : Nat) (a1 : Nat) : Option (Nat × Nat) := (eft_FastTwoSum.f a0 a1).bind fun bt1 => (some (bt1.1, bt1.2))
theorem dd_pair.c {a0 : Nat} {a1 : Nat} {r : Nat × Nat} (h : dd_pair.f a0 a1 = some r) : Con Tryz.prog Gw 38 [.s (.fl .f64 a0), .s (.fl .f64 a1)] (· = .ag [.fl .f64 r.1, .fl .f64 r.2]) := by
 unfold dd_pair.f at h
 obtain ⟨bt1, A1, h⟩ := bnd h
 have h := si h; subst h
 exact pth Tryz.func38 [.r (.tu [.s (.fl .f64 bt1.1), .s (.fl .f64 bt1.2)])] (fun e => ai (eft_FastTwoSum.c A1) e) (by kernel_rfl)
def dd_Sum.f (a0 : Nat) (a1 : Nat) : Option (Nat × Nat) := (eft_TwoSum.f a0 a1).bind fun bt1 => (some (bt1.1, bt1.2))
theorem dd_Sum.c {a0 : Nat} {a1 : Nat} {r : Nat × Nat} (h : dd_Sum.f a0 a1 = some r) : Con Tryz.prog Gw 27 [.s (.fl .f64 a0), .s (.fl .f64 a1)] (· = .ag [.fl .f64 r.1, .fl .f64 r.2]) := by
 unfold dd_Sum.f at h
 obtain ⟨bt1, A1, h⟩ := bnd h
 have h := si h; subst h
 exact pth Tryz.func27 [.r (.tu [.s (.fl .f64 bt1.1), .s (.fl .f64 bt1.2)])] (fun e => ai (eft_TwoSum.c A1) e) (by kernel_rfl)
def dd_Neg.f (a0_0 : Nat) (a0_1 : Nat) : Option (Nat × Nat) := some (Op.negFloat .f64 a0_0, Op.negFloat .f64 a0_1)
theorem dd_Neg.c {a0_0 : Nat} {a0_1 : Nat} {r : Nat × Nat} (h : dd_Neg.f a0_0 a0_1 = some r) : Con Tryz.prog Gw 64 [.ag [.fl .f64 a0_0, .fl .f64 a0_1]] (· = .ag [.fl .f64 r.1, .fl .f64 r.2]) := by
 unfold dd_Neg.f at h
 have h := si h; subst h
 exact pth Tryz.func64 [] (fun e => e) (by kernel_rfl)
def dd_Cmp.f (a0_0 : Nat) (a0_1 : Nat) (a1_0 : Nat) (a1_1 : Nat) : Option (Int) := (dd_Form.f a0_0 a0_1).bind fun t1 => (if t1 = true then ((dd_Form.f a1_0 a1_1).bind fun t2 => (if t2 = true then (if FloatKind.f64.format.order a0_0 a1_0 = some .lt then (some (-1)) else (if FloatKind.f64.format.order a0_0 a1_0 = some .eq then (if FloatKind.f64.format.order a0_1 a1_1 = some .lt then (some (-1)) else (if FloatKind.f64.format.order a0_0 a1_0 = some .gt then (some 1) else (if FloatKind.f64.format.order a0_1 a1_1 = some .gt then (some 1) else (some 0)))) else (if FloatKind.f64.format.order a0_0 a1_0 = some .gt then (some 1) else (some 0)))) else (some 0))) else (some 0))
theorem dd_Cmp.c {a0_0 : Nat} {a0_1 : Nat} {a1_0 : Nat} {a1_1 : Nat} {r : Int} (h : dd_Cmp.f a0_0 a0_1 a1_0 a1_1 = some r) : Con Tryz.prog Gw 26 [.ag [.fl .f64 a0_0, .fl .f64 a0_1], .ag [.fl .f64 a1_0, .fl .f64 a1_1]] (· = .s (.i .i64 r)) := by
 unfold dd_Cmp.f at h
 obtain ⟨t1, A1, h⟩ := bnd h
 rcases ite_e h with ⟨c2, h⟩ | ⟨c2, h⟩
 ·obtain ⟨t2, A3, h⟩ := bnd h
  rcases ite_e h with ⟨c4, h⟩ | ⟨c4, h⟩
  ·rcases ite_e h with ⟨c5, h⟩ | ⟨c5, h⟩
   ·have h := si h; subst h
    exact pth Tryz.func26 [.r (.s (.b t1)), .br false, .br false, .r (.s (.b t2)), .br false, .br false, .br false, .br true, .br true, .br true, .br true, .br true, .br true, .br true, .br true, .br true] (fun e => ai (dd_Form.c A1) (ai (nt1 c2) (ai (nt1 c2) (ai (dd_Form.c A3) (ai (nt1 c2) (ai (nt1 c2) (ai (nt1 c4) (ai (q1 c5) (ai (q1 c5) (ai (q1 c5) (ai (q1 c5) (ai (q1 c5) (ai (q1 c5) (ai (q1 c5) (ai (q1 c5) (ai tt e)))))))))))))))) (by kernel_rfl)
   ·rcases ite_e h with ⟨c6, h⟩ | ⟨c6, h⟩
    ·rcases ite_e h with ⟨c7, h⟩ | ⟨c7, h⟩
     ·have h := si h; subst h
      exact pth Tryz.func26 [.r (.s (.b t1)), .br false, .br false, .r (.s (.b t2)), .br false, .br false, .br false, .br false, .br false, .br false, .br false, .br false, .br false, .br true, .br true, .br true, .br true, .br true, .br false, .br true, .br false, .br true] (fun e => ai (dd_Form.c A1) (ai (nt1 c2) (ai (nt1 c2) (ai (dd_Form.c A3) (ai (nt1 c2) (ai (nt1 c2) (ai (nt1 c4) (ai (q0 c5) (ai (q0 c5) (ai (q0 c5) (ai (q0 c5) (ai (q0 c5) (ai (q0 c5) (ai (q1 c6) (ai (q1 c6) (ai (q1 c6) (ai (q1 c6) (ai (q1 c6) (ai (q0 c5) (ai (q1 c6) (ai (q0 c5) (ai (q1 c7) e)))))))))))))))))))))) (by kernel_rfl)
     ·rcases ite_e h with ⟨c8, h⟩ | ⟨c8, h⟩
      ·have h := si h; subst h
       exact pth Tryz.func26 [.r (.s (.b t1)), .br false, .br false, .r (.s (.b t2)), .br false, .br false, .br false, .br false, .br false, .br false, .br false, .br false, .br false, .br true, .br true, .br true, .br true, .br true, .br false, .br true, .br false, .br false, .br true, .br true, .br true, .br true, .br true, .br true, .br true, .br true, .br true] (fun e => ai (dd_Form.c A1) (ai (nt1 c2) (ai (nt1 c2) (ai (dd_Form.c A3) (ai (nt1 c2) (ai (nt1 c2) (ai (nt1 c4) (ai (q0 c5) (ai (q0 c5) (ai (q0 c5) (ai (q0 c5) (ai (q0 c5) (ai (q0 c5) (ai (q1 c6) (ai (q1 c6) (ai (q1 c6) (ai (q1 c6) (ai (q1 c6) (ai (q0 c5) (ai (q1 c6) (ai (q0 c5) (ai (q0 c7) (ai (q1 c8) (ai (q1 c8) (ai (q1 c8) (ai (q1 c8) (ai (q1 c8) (ai (q1 c8) (ai (q1 c8) (ai (q1 c8) (ai tt e))))))))))))))))))))))))))))))) (by kernel_rfl)
      ·rcases ite_e h with ⟨c9, h⟩ | ⟨c9, h⟩
       ·have h := si h; subst h
        exact pth Tryz.func26 [.r (.s (.b t1)), .br false, .br false, .r (.s (.b t2)), .br false, .br false, .br false, .br false, .br false, .br false, .br false, .br false, .br false, .br true, .br true, .br true, .br true, .br true, .br false, .br true, .br false, .br false, .br false, .br false, .br false, .br false, .br false, .br false, .br true, .br true, .br true, .br true, .br true, .br false, .br true, .br false, .br true] (fun e => ai (dd_Form.c A1) (ai (nt1 c2) (ai (nt1 c2) (ai (dd_Form.c A3) (ai (nt1 c2) (ai (nt1 c2) (ai (nt1 c4) (ai (q0 c5) (ai (q0 c5) (ai (q0 c5) (ai (q0 c5) (ai (q0 c5) (ai (q0 c5) (ai (q1 c6) (ai (q1 c6) (ai (q1 c6) (ai (q1 c6) (ai (q1 c6) (ai (q0 c5) (ai (q1 c6) (ai (q0 c5) (ai (q0 c7) (ai (q0 c8) (ai (q0 c8) (ai (q0 c8) (ai (q0 c8) (ai (q0 c8) (ai (q0 c8) (ai (q1 c6) (ai (q1 c6) (ai (q1 c6) (ai (q1 c6) (ai (q1 c6) (ai (q0 c8) (ai (q1 c6) (ai (q0 c8) (ai (q1 c9) e))))))))))))))))))))))))))))))))))))) (by kernel_rfl)
       ·have h := si h; subst h
        exact pth Tryz.func26 [.r (.s (.b t1)), .br false, .br false, .r (.s (.b t2)), .br false, .br false, .br false, .br false, .br false, .br false, .br false, .br false, .br false, .br true, .br true, .br true, .br true, .br true, .br false, .br true, .br false, .br false, .br false, .br false, .br false, .br false, .br false, .br false, .br true, .br true, .br true, .br true, .br true, .br false, .br true, .br false, .br false] (fun e => ai (dd_Form.c A1) (ai (nt1 c2) (ai (nt1 c2) (ai (dd_Form.c A3) (ai (nt1 c2) (ai (nt1 c2) (ai (nt1 c4) (ai (q0 c5) (ai (q0 c5) (ai (q0 c5) (ai (q0 c5) (ai (q0 c5) (ai (q0 c5) (ai (q1 c6) (ai (q1 c6) (ai (q1 c6) (ai (q1 c6) (ai (q1 c6) (ai (q0 c5) (ai (q1 c6) (ai (q0 c5) (ai (q0 c7) (ai (q0 c8) (ai (q0 c8) (ai (q0 c8) (ai (q0 c8) (ai (q0 c8) (ai (q0 c8) (ai (q1 c6) (ai (q1 c6) (ai (q1 c6) (ai (q1 c6) (ai (q1 c6) (ai (q0 c8) (ai (q1 c6) (ai (q0 c8) (ai (q0 c9) e))))))))))))))))))))))))))))))))))))) (by kernel_rfl)
    ·rcases ite_e h with ⟨c10, h⟩ | ⟨c10, h⟩
     ·have h := si h; subst h
      exact pth Tryz.func26 [.r (.s (.b t1)), .br false, .br false, .r (.s (.b t2)), .br false, .br false, .br false, .br false, .br false, .br false, .br false, .br false, .br false, .br false, .br false, .br false, .br false, .br false, .br false, .br false, .br false, .br false, .br true, .br true, .br true, .br true, .br true, .br true, .br true, .br true, .br true] (fun e => ai (dd_Form.c A1) (ai (nt1 c2) (ai (nt1 c2) (ai (dd_Form.c A3) (ai (nt1 c2) (ai (nt1 c2) (ai (nt1 c4) (ai (q0 c5) (ai (q0 c5) (ai (q0 c5) (ai (q0 c5) (ai (q0 c5) (ai (q0 c5) (ai (q0 c6) (ai (q0 c6) (ai (q0 c6) (ai (q0 c6) (ai (q0 c6) (ai (q0 c5) (ai (q0 c6) (ai (q0 c5) (ai ff (ai (q1 c10) (ai (q1 c10) (ai (q1 c10) (ai (q1 c10) (ai (q1 c10) (ai (q1 c10) (ai (q1 c10) (ai (q1 c10) (ai tt e))))))))))))))))))))))))))))))) (by kernel_rfl)
     ·have h := si h; subst h
      exact pth Tryz.func26 [.r (.s (.b t1)), .br false, .br false, .r (.s (.b t2)), .br false, .br false, .br false, .br false, .br false, .br false, .br false, .br false, .br false, .br false, .br false, .br false, .br false, .br false, .br false, .br false, .br false, .br false, .br false, .br false, .br false, .br false, .br false, .br false, .br false, .br false, .br false, .br false, .br false, .br false, .br false, .br false, .br false] (fun e => ai (dd_Form.c A1) (ai (nt1 c2) (ai (nt1 c2) (ai (dd_Form.c A3) (ai (nt1 c2) (ai (nt1 c2) (ai (nt1 c4) (ai (q0 c5) (ai (q0 c5) (ai (q0 c5) (ai (q0 c5) (ai (q0 c5) (ai (q0 c5) (ai (q0 c6) (ai (q0 c6) (ai (q0 c6) (ai (q0 c6) (ai (q0 c6) (ai (q0 c5) (ai (q0 c6) (ai (q0 c5) (ai ff (ai (q0 c10) (ai (q0 c10) (ai (q0 c10) (ai (q0 c10) (ai (q0 c10) (ai (q0 c10) (ai (q0 c6) (ai (q0 c6) (ai (q0 c6) (ai (q0 c6) (ai (q0 c6) (ai (q0 c10) (ai (q0 c6) (ai (q0 c10) (ai ff e))))))))))))))))))))))))))))))))))))) (by kernel_rfl)
  ·have h := si h; subst h
   exact pth Tryz.func26 [.r (.s (.b t1)), .br false, .br false, .r (.s (.b t2)), .br false, .br false, .br true] (fun e => ai (dd_Form.c A1) (ai (nt1 c2) (ai (nt1 c2) (ai (dd_Form.c A3) (ai (nt1 c2) (ai (nt1 c2) (ai (nt0 (z0 c4)) e))))))) (by kernel_rfl)
 ·have h := si h; subst h
  exact pth Tryz.func26 [.r (.s (.b t1)), .br true, .br true, .br true, .br true, .br true] (fun e => ai (dd_Form.c A1) (ai (nt0 (z0 c2)) (ai (nt0 (z0 c2)) (ai (nt0 (z0 c2)) (ai (nt0 (z0 c2)) (ai tt e)))))) (by kernel_rfl)
def dd_Add.f (a0_0 : Nat) (a0_1 : Nat) (a1_0 : Nat) (a1_1 : Nat) : Option (Nat × Nat) := (eft_TwoSum.f a0_0 a1_0).bind fun bt1 => ((eft_TwoSum.f a0_1 a1_1).bind fun bt2 => ((FloatKind.f64.format.add bt1.2 bt2.1).bind fun r3 => ((dd_pair.f bt1.1 r3).bind fun bt4 => ((FloatKind.f64.format.add bt2.2 bt4.2).bind fun r5 => ((dd_pair.f bt4.1 r5).bind fun bt6 => (some (bt6.1, bt6.2)))))))
theorem dd_Add.c {a0_0 : Nat} {a0_1 : Nat} {a1_0 : Nat} {a1_1 : Nat} {r : Nat × Nat} (h : dd_Add.f a0_0 a0_1 a1_0 a1_1 = some r) : Con Tryz.prog Gw 30 [.ag [.fl .f64 a0_0, .fl .f64 a0_1], .ag [.fl .f64 a1_0, .fl .f64 a1_1]] (· = .ag [.fl .f64 r.1, .fl .f64 r.2]) := by
 unfold dd_Add.f at h
 obtain ⟨bt1, A1, h⟩ := bnd h
 obtain ⟨bt2, A2, h⟩ := bnd h
 obtain ⟨r3, A3, h⟩ := bnd h
 obtain ⟨bt4, A4, h⟩ := bnd h
 obtain ⟨r5, A5, h⟩ := bnd h
 obtain ⟨bt6, A6, h⟩ := bnd h
 have h := si h; subst h
 exact pth Tryz.func30 [.r (.tu [.s (.fl .f64 bt1.1), .s (.fl .f64 bt1.2)]), .r (.tu [.s (.fl .f64 bt2.1), .s (.fl .f64 bt2.2)]), .r (.s (.fl .f64 r3)), .r (.ag [.fl .f64 bt4.1, .fl .f64 bt4.2]), .r (.s (.fl .f64 r5)), .r (.ag [.fl .f64 bt6.1, .fl .f64 bt6.2])] (fun e => ai (eft_TwoSum.c A1) (ai (eft_TwoSum.c A2) (ai A3 (ai (dd_pair.c A4) (ai A5 (ai (dd_pair.c A6) e)))))) (by kernel_rfl)
def dd_Sub.f (a0_0 : Nat) (a0_1 : Nat) (a1_0 : Nat) (a1_1 : Nat) : Option (Nat × Nat) := (dd_Neg.f a1_0 a1_1).bind fun bt1 => ((dd_Add.f a0_0 a0_1 bt1.1 bt1.2).bind fun bt2 => (some (bt2.1, bt2.2)))
theorem dd_Sub.c {a0_0 : Nat} {a0_1 : Nat} {a1_0 : Nat} {a1_1 : Nat} {r : Nat × Nat} (h : dd_Sub.f a0_0 a0_1 a1_0 a1_1 = some r) : Con Tryz.prog Gw 31 [.ag [.fl .f64 a0_0, .fl .f64 a0_1], .ag [.fl .f64 a1_0, .fl .f64 a1_1]] (· = .ag [.fl .f64 r.1, .fl .f64 r.2]) := by
 unfold dd_Sub.f at h
 obtain ⟨bt1, A1, h⟩ := bnd h
 obtain ⟨bt2, A2, h⟩ := bnd h
 have h := si h; subst h
 exact pth Tryz.func31 [.r (.ag [.fl .f64 bt1.1, .fl .f64 bt1.2]), .r (.ag [.fl .f64 bt2.1, .fl .f64 bt2.2])] (fun e => ai (dd_Neg.c A1) (ai (dd_Add.c A2) e)) (by kernel_rfl)
def dd_Mul.f (a0_0 : Nat) (a0_1 : Nat) (a1_0 : Nat) (a1_1 : Nat) : Option (Nat × Nat) := (eft_TwoProd.f a0_0 a1_0).bind fun bt1 => ((FloatKind.f64.format.mul a0_0 a1_1).bind fun r2 => ((FloatKind.f64.format.mul a0_1 a1_0).bind fun r3 => ((FloatKind.f64.format.add r2 r3).bind fun r4 => ((FloatKind.f64.format.add bt1.2 r4).bind fun r5 => ((dd_pair.f bt1.1 r5).bind fun bt6 => (some (bt6.1, bt6.2)))))))
theorem dd_Mul.c {a0_0 : Nat} {a0_1 : Nat} {a1_0 : Nat} {a1_1 : Nat} {r : Nat × Nat} (h : dd_Mul.f a0_0 a0_1 a1_0 a1_1 = some r) : Con Tryz.prog Gw 12 [.ag [.fl .f64 a0_0, .fl .f64 a0_1], .ag [.fl .f64 a1_0, .fl .f64 a1_1]] (· = .ag [.fl .f64 r.1, .fl .f64 r.2]) := by
 unfold dd_Mul.f at h
 obtain ⟨bt1, A1, h⟩ := bnd h
 obtain ⟨r2, A2, h⟩ := bnd h
 obtain ⟨r3, A3, h⟩ := bnd h
 obtain ⟨r4, A4, h⟩ := bnd h
 obtain ⟨r5, A5, h⟩ := bnd h
 obtain ⟨bt6, A6, h⟩ := bnd h
 have h := si h; subst h
 exact pth Tryz.func12 [.r (.tu [.s (.fl .f64 bt1.1), .s (.fl .f64 bt1.2)]), .r (.s (.fl .f64 r2)), .r (.s (.fl .f64 r3)), .r (.s (.fl .f64 r4)), .r (.s (.fl .f64 r5)), .r (.ag [.fl .f64 bt6.1, .fl .f64 bt6.2])] (fun e => ai (eft_TwoProd.c A1) (ai A2 (ai A3 (ai A4 (ai A5 (ai (dd_pair.c A6) e)))))) (by kernel_rfl)
end Go.Proofs.YtapikmfckpgjoaaGreatDoor.PLib
