/- Functions of the program as plain Lean functions (definitions as the print's), and that the machine's calls do what they do (contracts 'X.c', by Px). Condition: math/bits' table is laid. -/
import Derived.Test.YtelfmddcjlocpaaGreatDoorKRoundQuotedPxL0
import Derived.Test.YtelfmddcjlocpaaGreatDoorKRoundQuotedPxL1
import Derived.Test.YtelfmddcjlocpaaGreatDoorKRoundQuotedPRefx0
import Derived.Test.YtelfmddcjlocpaaGreatDoorKRoundQuotedPxQ0
import Derived.Test.YtelfmddcjlocpaaGreatDoorKRoundQuotedPRfzx0
import Derived.Test.YtelfmddcjlocpaaGreatDoorKRoundQuotedPxRfz
import Derived.Test.YtelfmddcjlocpaaGreatDoorKRoundQuotedGivenD
import Derived.Test.YtelfmddcjlocpaaGreatDoorKRoundQuotedPxA
import Derived.Laws.CopyOwn
import Derived.Laws.MakeOwn
import Derived.Test.YtelfmddcjlocpaaGreatDoorKRoundQuotedPxNd
set_option linter.unusedVariables false
namespace Go.Proofs.YtelfmddcjlocpaaGreatDoor.PLib
open Go Go.RowKit Go.Proofs.YtelfmddcjlocpaaGreatDoorW.PrintWords Go.Proofs.YtelfmddcjlocpaaGreatDoorW.PrintMore Go.Proofs.YtelfmddcjlocpaaGreatDoor.Given Go.Proofs.YtelfmddcjlocpaaGreatDoor.Px Go.Proofs.YtelfmddcjlocpaaGreatDoor.PRef Go.Proofs.YtelfmddcjlocpaaGreatDoor.PRfz
def round_long.f (a0_0 : Bool) (l0_1 : List Int) (a0_2 : Int) : Option (Bool) := some (decide ((l0_1.length : Int) > 4096))
theorem round_long.c {a0_0 : Bool} {l0_1 : List Int} {a0_2 : Int} {r : Bool} (h : round_long.f a0_0 l0_1 a0_2 = some r) : Con Tryz.prog Gw 35 [.ag [.b a0_0, .sl .u64 l0_1, .i .i64 a0_2]] (· = .s (.b r)) := by
 unfold round_long.f at h
 have h := si h; subst h
 exact pth Tryz.func35 [] (fun e => e) (by kernel_rfl)
def round_sticky.f (l0 : List Int) (l1 : List Int) : Option (List Int) := (nat_Shl.f l0 1).bind fun bt1 => (if (l1.length : Int) > 0 then ((nat_Word.f 1).bind fun t2 => ((nat_Add.f bt1.1 t2).bind fun bt3 => (some bt3.1))) else (some bt1.1))
theorem round_sticky.c {l0 : List Int} {l1 : List Int} {r : List Int} (h : round_sticky.f l0 l1 = some r) : Con Tryz.prog Gw 41 [.s (.sl .u64 l0), .s (.sl .u64 l1)] (· = .s (.sl .u64 r)) := by
 unfold round_sticky.f at h
 obtain ⟨bt1, A1, h⟩ := bnd h
 rcases ite_e h with ⟨c2, h⟩ | ⟨c2, h⟩
 ·obtain ⟨t2, A3, h⟩ := bnd h
  obtain ⟨bt3, A4, h⟩ := bnd h
  have h := si h; subst h
  exact pth Tryz.func41 [.r (.tu [.s (.sl .u64 bt1.1), .s (.i .i64 bt1.2)]), .br true, .r (.s (.sl .u64 t2)), .r (.tu [.s (.sl .u64 bt3.1), .s (.i .i64 bt3.2)])] (fun e => ai (nat_Shl.c A1) (ai (d1 c2) (ai (nat_Word.c A3) (ai (nat_Add.c A4) e)))) (by kernel_rfl)
 ·have h := si h; subst h
  exact pth Tryz.func41 [.r (.tu [.s (.sl .u64 bt1.1), .s (.i .i64 bt1.2)]), .br false] (fun e => ai (nat_Shl.c A1) (ai (d0 c2) e)) (by kernel_rfl)
def round_Quotient.f (k : Nat) (a0 : Int) (a1_0 : Bool) (l1_1 : List Int) (a1_2 : Int) (a2_0 : Bool) (l2_1 : List Int) (a2_2 : Int) : Option (Int × Int) := (round_of.f a0).bind fun bt1 => (if (bt1.1 == 0 && (bt1.2.1 == 0 && (bt1.2.2 == 0))) = true then (some (0, 1)) else ((dyadic_Form.f k a1_0 l1_1 a1_2).bind fun t2 => (if t2 = true then ((dyadic_Form.f k a2_0 l2_1 a2_2).bind fun t3 => (if t3 = true then (if (l2_1.length : Int) = 0 then (some (0, 4)) else ((round_long.f a1_0 l1_1 a1_2).bind fun t4 => (if t4 = true then (some (0, 5)) else ((round_long.f a2_0 l2_1 a2_2).bind fun t5 => (if t5 = true then (some (0, 5)) else (if (l1_1.length : Int) = 0 then (some (0, 0)) else ((nat_Bits.f l2_1).bind fun t6 => ((nat_Bits.f l1_1).bind fun t7 => ((nat_Shl.f l1_1 (mx 0 (wrap64 ((wrap64 ((wrap64 (bt1.1 + 3)) + t6)) - t7)))).bind fun bt8 => ((natdiv_QuoRem.f bt8.1 l2_1).bind fun bt9 => ((round_sticky.f bt9.1 bt9.2.1).bind fun t10 => ((round_widths_size.f k bt1.1 bt1.2.1 bt1.2.2 t10 (wrap64 ((wrap64 ((wrap64 (a1_2 - a2_2)) - (mx 0 (wrap64 ((wrap64 ((wrap64 (bt1.1 + 3)) + t6)) - t7))))) - 1))).bind fun t11 => ((round_widths_signed.f bt1.1 bt1.2.1 bt1.2.2 (a1_0 != a2_0) t11).bind fun t12 => (some (t12, 0))))))))))))))) else (some (0, 2)))) else (some (0, 2)))))
theorem round_Quotient.mono : ∀ a0 a1 a2 a3 a4 a5 a6 k, LeO (round_Quotient.f k a0 a1 a2 a3 a4 a5 a6) (round_Quotient.f (k + 1) a0 a1 a2 a3 a4 a5 a6) := by
 intro a0 a1 a2 a3 a4 a5 a6 k
 unfold round_Quotient.f
 repeat' first
  | (with_reducible exact dyadic_Form.mono _ _ _ _)
  | (with_reducible exact round_widths_size.mono _ _ _ _ _ _)
  | (with_reducible exact LeO.refl _)
  | (with_reducible exact LeO.none _)
  | (with_reducible refine LeO.ite ?_ ?_)
  | (with_reducible refine LeO.bind ?_ (fun _ => ?_))
theorem round_Quotient.c {k : Nat} {a0 : Int} {a1_0 : Bool} {l1_1 : List Int} {a1_2 : Int} {a2_0 : Bool} {l2_1 : List Int} {a2_2 : Int} {r : Int × Int} (h : round_Quotient.f k a0 a1_0 l1_1 a1_2 a2_0 l2_1 a2_2 = some r) : Con Tryz.prog Gw 11 [.s (.i .i64 a0), .ag [.b a1_0, .sl .u64 l1_1, .i .i64 a1_2], .ag [.b a2_0, .sl .u64 l2_1, .i .i64 a2_2]] (· = .tu [.s (.i .u64 r.1), .s (.i .i64 r.2)]) := by
 unfold round_Quotient.f at h
 obtain ⟨bt1, A1, h⟩ := bnd h
 rcases ite_e h with ⟨c2, h⟩ | ⟨c2, h⟩
 ·have h := si h; subst h
  exact pth Tryz.func11 [.r (.ag [.i .i64 bt1.1, .i .i64 bt1.2.1, .i .i64 bt1.2.2]), .br true] (fun e => ai (round_of.c A1) (ai c2 e)) (by kernel_rfl)
 ·obtain ⟨t2, A3, h⟩ := bnd h
  rcases ite_e h with ⟨c4, h⟩ | ⟨c4, h⟩
  ·obtain ⟨t3, A5, h⟩ := bnd h
   rcases ite_e h with ⟨c6, h⟩ | ⟨c6, h⟩
   ·rcases ite_e h with ⟨c7, h⟩ | ⟨c7, h⟩
    ·have h := si h; subst h
     exact pth Tryz.func11 [.r (.ag [.i .i64 bt1.1, .i .i64 bt1.2.1, .i .i64 bt1.2.2]), .br false, .r (.s (.b t2)), .br false, .br false, .r (.s (.b t3)), .br false, .br false, .br false, .br true] (fun e => ai (round_of.c A1) (ai (z0 c2) (ai (dyadic_Form.c A3) (ai (nt1 c4) (ai (nt1 c4) (ai (dyadic_Form.c A5) (ai (nt1 c4) (ai (nt1 c4) (ai (nt1 c6) (ai (q1 c7) e)))))))))) (by kernel_rfl)
    ·obtain ⟨t4, A8, h⟩ := bnd h
     rcases ite_e h with ⟨c9, h⟩ | ⟨c9, h⟩
     ·have h := si h; subst h
      exact pth Tryz.func11 [.r (.ag [.i .i64 bt1.1, .i .i64 bt1.2.1, .i .i64 bt1.2.2]), .br false, .r (.s (.b t2)), .br false, .br false, .r (.s (.b t3)), .br false, .br false, .br false, .br false, .r (.s (.b t4)), .br true, .br true, .br true, .br true] (fun e => ai (round_of.c A1) (ai (z0 c2) (ai (dyadic_Form.c A3) (ai (nt1 c4) (ai (nt1 c4) (ai (dyadic_Form.c A5) (ai (nt1 c4) (ai (nt1 c4) (ai (nt1 c6) (ai (q0 c7) (ai (round_long.c A8) (ai c9 (ai c9 (ai c9 (ai tt e))))))))))))))) (by kernel_rfl)
     ·obtain ⟨t5, A10, h⟩ := bnd h
      rcases ite_e h with ⟨c11, h⟩ | ⟨c11, h⟩
      ·have h := si h; subst h
       exact pth Tryz.func11 [.r (.ag [.i .i64 bt1.1, .i .i64 bt1.2.1, .i .i64 bt1.2.2]), .br false, .r (.s (.b t2)), .br false, .br false, .r (.s (.b t3)), .br false, .br false, .br false, .br false, .r (.s (.b t4)), .br false, .br false, .r (.s (.b t5)), .br false, .br true] (fun e => ai (round_of.c A1) (ai (z0 c2) (ai (dyadic_Form.c A3) (ai (nt1 c4) (ai (nt1 c4) (ai (dyadic_Form.c A5) (ai (nt1 c4) (ai (nt1 c4) (ai (nt1 c6) (ai (q0 c7) (ai (round_long.c A8) (ai (z0 c9) (ai (z0 c9) (ai (round_long.c A10) (ai (z0 c9) (ai c11 e)))))))))))))))) (by kernel_rfl)
      ·rcases ite_e h with ⟨c12, h⟩ | ⟨c12, h⟩
       ·have h := si h; subst h
        exact pth Tryz.func11 [.r (.ag [.i .i64 bt1.1, .i .i64 bt1.2.1, .i .i64 bt1.2.2]), .br false, .r (.s (.b t2)), .br false, .br false, .r (.s (.b t3)), .br false, .br false, .br false, .br false, .r (.s (.b t4)), .br false, .br false, .r (.s (.b t5)), .br false, .br false, .br true] (fun e => ai (round_of.c A1) (ai (z0 c2) (ai (dyadic_Form.c A3) (ai (nt1 c4) (ai (nt1 c4) (ai (dyadic_Form.c A5) (ai (nt1 c4) (ai (nt1 c4) (ai (nt1 c6) (ai (q0 c7) (ai (round_long.c A8) (ai (z0 c9) (ai (z0 c9) (ai (round_long.c A10) (ai (z0 c9) (ai (z0 c11) (ai (q1 c12) e))))))))))))))))) (by kernel_rfl)
       ·obtain ⟨t6, A13, h⟩ := bnd h
        obtain ⟨t7, A14, h⟩ := bnd h
        obtain ⟨bt8, A15, h⟩ := bnd h
        obtain ⟨bt9, A16, h⟩ := bnd h
        obtain ⟨t10, A17, h⟩ := bnd h
        obtain ⟨t11, A18, h⟩ := bnd h
        obtain ⟨t12, A19, h⟩ := bnd h
        have h := si h; subst h
        exact pth Tryz.func11 [.r (.ag [.i .i64 bt1.1, .i .i64 bt1.2.1, .i .i64 bt1.2.2]), .br false, .r (.s (.b t2)), .br false, .br false, .r (.s (.b t3)), .br false, .br false, .br false, .br false, .r (.s (.b t4)), .br false, .br false, .r (.s (.b t5)), .br false, .br false, .br false, .r (.s (.i .i64 t6)), .r (.s (.i .i64 t7)), .r (.tu [.s (.sl .u64 bt8.1), .s (.i .i64 bt8.2)]), .r (.tu [.s (.sl .u64 bt9.1), .s (.sl .u64 bt9.2.1), .s (.i .i64 bt9.2.2)]), .r (.s (.sl .u64 t10)), .r (.s (.i .u64 t11)), .r (.s (.i .u64 t12))] (fun e => ai (round_of.c A1) (ai (z0 c2) (ai (dyadic_Form.c A3) (ai (nt1 c4) (ai (nt1 c4) (ai (dyadic_Form.c A5) (ai (nt1 c4) (ai (nt1 c4) (ai (nt1 c6) (ai (q0 c7) (ai (round_long.c A8) (ai (z0 c9) (ai (z0 c9) (ai (round_long.c A10) (ai (z0 c9) (ai (z0 c11) (ai (q0 c12) (ai (nat_Bits.c A13) (ai (nat_Bits.c A14) (ai (nat_Shl.c A15) (ai (natdiv_QuoRem.c A16) (ai (round_sticky.c A17) (ai (round_widths_size.c A18) (ai (round_widths_signed.c A19) e)))))))))))))))))))))))) (by kernel_rfl)
   ·have h := si h; subst h
    exact pth Tryz.func11 [.r (.ag [.i .i64 bt1.1, .i .i64 bt1.2.1, .i .i64 bt1.2.2]), .br false, .r (.s (.b t2)), .br false, .br false, .r (.s (.b t3)), .br false, .br false, .br true] (fun e => ai (round_of.c A1) (ai (z0 c2) (ai (dyadic_Form.c A3) (ai (nt1 c4) (ai (nt1 c4) (ai (dyadic_Form.c A5) (ai (nt1 c4) (ai (nt1 c4) (ai (nt0 (z0 c6)) e))))))))) (by kernel_rfl)
  ·have h := si h; subst h
   exact pth Tryz.func11 [.r (.ag [.i .i64 bt1.1, .i .i64 bt1.2.1, .i .i64 bt1.2.2]), .br false, .r (.s (.b t2)), .br true, .br true, .br true, .br true, .br true] (fun e => ai (round_of.c A1) (ai (z0 c2) (ai (dyadic_Form.c A3) (ai (nt0 (z0 c4)) (ai (nt0 (z0 c4)) (ai (nt0 (z0 c4)) (ai (nt0 (z0 c4)) (ai tt e)))))))) (by kernel_rfl)
def gnomonref08_check.f (k : Nat) (a0 : Int) (a1_0 : Bool) (l1_1 : List Int) (a1_2 : Int) (a2_0 : Bool) (l2_1 : List Int) (a2_2 : Int) : Option (Int) := (gnomonref07_Of.f a0).bind fun bt1 => (if bt1.2.2.2.2.2.2 = true then ((gnomonref05_DocForm.f k a1_0 l1_1 a1_2).bind fun t2 => (if t2 = true then ((gnomonref05_DocForm.f k a2_0 l2_1 a2_2).bind fun t3 => (if t3 = true then (some 0) else (some 2))) else (some 2))) else (some 1))
theorem gnomonref08_check.mono : ∀ a0 a1 a2 a3 a4 a5 a6 k, LeO (gnomonref08_check.f k a0 a1 a2 a3 a4 a5 a6) (gnomonref08_check.f (k + 1) a0 a1 a2 a3 a4 a5 a6) := by
 intro a0 a1 a2 a3 a4 a5 a6 k
 unfold gnomonref08_check.f
 repeat' first
  | (with_reducible exact gnomonref05_DocForm.mono _ _ _ _)
  | (with_reducible exact LeO.refl _)
  | (with_reducible exact LeO.none _)
  | (with_reducible refine LeO.ite ?_ ?_)
  | (with_reducible refine LeO.bind ?_ (fun _ => ?_))
theorem gnomonref08_check.c {k : Nat} {a0 : Int} {a1_0 : Bool} {l1_1 : List Int} {a1_2 : Int} {a2_0 : Bool} {l2_1 : List Int} {a2_2 : Int} {r : Int} (h : gnomonref08_check.f k a0 a1_0 l1_1 a1_2 a2_0 l2_1 a2_2 = some r) : Con Tryz.prog Gw 152 [.s (.i .i64 a0), .ag [.b a1_0, .sl .u64 l1_1, .i .i64 a1_2], .ag [.b a2_0, .sl .u64 l2_1, .i .i64 a2_2]] (· = .s (.i .i64 r)) := by
 unfold gnomonref08_check.f at h
 obtain ⟨bt1, A1, h⟩ := bnd h
 rcases ite_e h with ⟨c2, h⟩ | ⟨c2, h⟩
 ·obtain ⟨t2, A3, h⟩ := bnd h
  rcases ite_e h with ⟨c4, h⟩ | ⟨c4, h⟩
  ·obtain ⟨t3, A5, h⟩ := bnd h
   rcases ite_e h with ⟨c6, h⟩ | ⟨c6, h⟩
   ·have h := si h; subst h
    exact pth Tryz.func152 [.r (.tu [.ag [.i .u64 bt1.1, .i .i64 bt1.2.1, .i .i64 bt1.2.2.1, .i .i64 bt1.2.2.2.1, .i .u64 bt1.2.2.2.2.1, .i .u64 bt1.2.2.2.2.2.1], .s (.b bt1.2.2.2.2.2.2)]), .br false, .r (.s (.b t2)), .br false, .br false, .r (.s (.b t3)), .br false, .br false, .br false] (fun e => ai (gnomonref07_Of.c A1) (ai (nt1 c2) (ai (gnomonref05_DocForm.c A3) (ai (nt1 c4) (ai (nt1 c4) (ai (gnomonref05_DocForm.c A5) (ai (nt1 c4) (ai (nt1 c4) (ai (nt1 c6) e))))))))) (by kernel_rfl)
   ·have h := si h; subst h
    exact pth Tryz.func152 [.r (.tu [.ag [.i .u64 bt1.1, .i .i64 bt1.2.1, .i .i64 bt1.2.2.1, .i .i64 bt1.2.2.2.1, .i .u64 bt1.2.2.2.2.1, .i .u64 bt1.2.2.2.2.2.1], .s (.b bt1.2.2.2.2.2.2)]), .br false, .r (.s (.b t2)), .br false, .br false, .r (.s (.b t3)), .br false, .br false, .br true] (fun e => ai (gnomonref07_Of.c A1) (ai (nt1 c2) (ai (gnomonref05_DocForm.c A3) (ai (nt1 c4) (ai (nt1 c4) (ai (gnomonref05_DocForm.c A5) (ai (nt1 c4) (ai (nt1 c4) (ai (nt0 (z0 c6)) e))))))))) (by kernel_rfl)
  ·have h := si h; subst h
   exact pth Tryz.func152 [.r (.tu [.ag [.i .u64 bt1.1, .i .i64 bt1.2.1, .i .i64 bt1.2.2.1, .i .i64 bt1.2.2.2.1, .i .u64 bt1.2.2.2.2.1, .i .u64 bt1.2.2.2.2.2.1], .s (.b bt1.2.2.2.2.2.2)]), .br false, .r (.s (.b t2)), .br true, .br true, .br true, .br true, .br true] (fun e => ai (gnomonref07_Of.c A1) (ai (nt1 c2) (ai (gnomonref05_DocForm.c A3) (ai (nt0 (z0 c4)) (ai (nt0 (z0 c4)) (ai (nt0 (z0 c4)) (ai (nt0 (z0 c4)) (ai tt e)))))))) (by kernel_rfl)
 ·have h := si h; subst h
  exact pth Tryz.func152 [.r (.tu [.ag [.i .u64 bt1.1, .i .i64 bt1.2.1, .i .i64 bt1.2.2.1, .i .i64 bt1.2.2.2.1, .i .u64 bt1.2.2.2.2.1, .i .u64 bt1.2.2.2.2.2.1], .s (.b bt1.2.2.2.2.2.2)]), .br true] (fun e => ai (gnomonref07_Of.c A1) (ai (nt0 (z0 c2)) e)) (by kernel_rfl)
def gnomonref08_long.f (a0_0 : Bool) (l0_1 : List Int) (a0_2 : Int) : Option (Bool) := some (decide ((l0_1.length : Int) > 4096))
theorem gnomonref08_long.c {a0_0 : Bool} {l0_1 : List Int} {a0_2 : Int} {r : Bool} (h : gnomonref08_long.f a0_0 l0_1 a0_2 = some r) : Con Tryz.prog Gw 153 [.ag [.b a0_0, .sl .u64 l0_1, .i .i64 a0_2]] (· = .s (.b r)) := by
 unfold gnomonref08_long.f at h
 have h := si h; subst h
 exact pth Tryz.func153 [] (fun e => e) (by kernel_rfl)
def gnomonref08_DocQuotient.f (k : Nat) (a0 : Int) (a1_0 : Bool) (l1_1 : List Int) (a1_2 : Int) (a2_0 : Bool) (l2_1 : List Int) (a2_2 : Int) : Option (Int × Int) := (gnomonref08_check.f k a0 a1_0 l1_1 a1_2 a2_0 l2_1 a2_2).bind fun t1 => (if t1 = 0 then ((gnomonref05_Nought.f a2_0 l2_1 a2_2).bind fun t2 => (if t2 = true then (some (0, 4)) else ((gnomonref08_long.f a1_0 l1_1 a1_2).bind fun t3 => (if t3 = true then (some (0, 5)) else ((gnomonref08_long.f a2_0 l2_1 a2_2).bind fun t4 => (if t4 = true then (some (0, 5)) else ((gnomonref05_Nought.f a1_0 l1_1 a1_2).bind fun t5 => (if t5 = true then (some (0, 0)) else ((gnomonref07_Of.f a0).bind fun bt6 => ((gnomonref01_From.f k l1_1).bind fun t7 => ((gnomonref01_From.f k l2_1).bind fun t8 => ((gnomonref08_Size.f k bt6.1 bt6.2.1 bt6.2.2.1 bt6.2.2.2.1 bt6.2.2.2.2.1 bt6.2.2.2.2.2.1 t7 t8 (wrap64 (a1_2 - a2_2)) false).bind fun t9 => ((gnomonref08_signed.f bt6.1 bt6.2.1 bt6.2.2.1 bt6.2.2.2.1 bt6.2.2.2.2.1 bt6.2.2.2.2.2.1 (a1_0 != a2_0) t9).bind fun t10 => (some (t10, 0))))))))))))))) else (some (0, t1)))
theorem gnomonref08_DocQuotient.mono : ∀ a0 a1 a2 a3 a4 a5 a6 k, LeO (gnomonref08_DocQuotient.f k a0 a1 a2 a3 a4 a5 a6) (gnomonref08_DocQuotient.f (k + 1) a0 a1 a2 a3 a4 a5 a6) := by
 intro a0 a1 a2 a3 a4 a5 a6 k
 unfold gnomonref08_DocQuotient.f
 repeat' first
  | (with_reducible exact gnomonref01_From.mono _ _)
  | (with_reducible exact gnomonref08_Size.mono _ _ _ _ _ _ _ _ _ _ _)
  | (with_reducible exact gnomonref08_check.mono _ _ _ _ _ _ _ _)
  | (with_reducible exact LeO.refl _)
  | (with_reducible exact LeO.none _)
  | (with_reducible refine LeO.ite ?_ ?_)
  | (with_reducible refine LeO.bind ?_ (fun _ => ?_))
theorem gnomonref08_DocQuotient.c {k : Nat} {a0 : Int} {a1_0 : Bool} {l1_1 : List Int} {a1_2 : Int} {a2_0 : Bool} {l2_1 : List Int} {a2_2 : Int} {r : Int × Int} (h : gnomonref08_DocQuotient.f k a0 a1_0 l1_1 a1_2 a2_0 l2_1 a2_2 = some r) : Con Tryz.prog Gw 115 [.s (.i .i64 a0), .ag [.b a1_0, .sl .u64 l1_1, .i .i64 a1_2], .ag [.b a2_0, .sl .u64 l2_1, .i .i64 a2_2]] (· = .tu [.s (.i .u64 r.1), .s (.i .i64 r.2)]) := by
 unfold gnomonref08_DocQuotient.f at h
 obtain ⟨t1, A1, h⟩ := bnd h
 rcases ite_e h with ⟨c2, h⟩ | ⟨c2, h⟩
 ·obtain ⟨t2, A3, h⟩ := bnd h
  rcases ite_e h with ⟨c4, h⟩ | ⟨c4, h⟩
  ·have h := si h; subst h
   exact pth Tryz.func115 [.r (.s (.i .i64 t1)), .br false, .r (.s (.b t2)), .br true] (fun e => ai (gnomonref08_check.c A1) (ai (n0 c2) (ai (gnomonref05_Nought.c A3) (ai c4 e)))) (by kernel_rfl)
  ·obtain ⟨t3, A5, h⟩ := bnd h
   rcases ite_e h with ⟨c6, h⟩ | ⟨c6, h⟩
   ·have h := si h; subst h
    exact pth Tryz.func115 [.r (.s (.i .i64 t1)), .br false, .r (.s (.b t2)), .br false, .r (.s (.b t3)), .br true, .br true, .br true, .br true] (fun e => ai (gnomonref08_check.c A1) (ai (n0 c2) (ai (gnomonref05_Nought.c A3) (ai (z0 c4) (ai (gnomonref08_long.c A5) (ai c6 (ai c6 (ai c6 (ai tt e))))))))) (by kernel_rfl)
   ·obtain ⟨t4, A7, h⟩ := bnd h
    rcases ite_e h with ⟨c8, h⟩ | ⟨c8, h⟩
    ·have h := si h; subst h
     exact pth Tryz.func115 [.r (.s (.i .i64 t1)), .br false, .r (.s (.b t2)), .br false, .r (.s (.b t3)), .br false, .br false, .r (.s (.b t4)), .br false, .br true] (fun e => ai (gnomonref08_check.c A1) (ai (n0 c2) (ai (gnomonref05_Nought.c A3) (ai (z0 c4) (ai (gnomonref08_long.c A5) (ai (z0 c6) (ai (z0 c6) (ai (gnomonref08_long.c A7) (ai (z0 c6) (ai c8 e)))))))))) (by kernel_rfl)
    ·obtain ⟨t5, A9, h⟩ := bnd h
     rcases ite_e h with ⟨c10, h⟩ | ⟨c10, h⟩
     ·have h := si h; subst h
      exact pth Tryz.func115 [.r (.s (.i .i64 t1)), .br false, .r (.s (.b t2)), .br false, .r (.s (.b t3)), .br false, .br false, .r (.s (.b t4)), .br false, .br false, .r (.s (.b t5)), .br true] (fun e => ai (gnomonref08_check.c A1) (ai (n0 c2) (ai (gnomonref05_Nought.c A3) (ai (z0 c4) (ai (gnomonref08_long.c A5) (ai (z0 c6) (ai (z0 c6) (ai (gnomonref08_long.c A7) (ai (z0 c6) (ai (z0 c8) (ai (gnomonref05_Nought.c A9) (ai c10 e)))))))))))) (by kernel_rfl)
     ·obtain ⟨bt6, A11, h⟩ := bnd h
      obtain ⟨t7, A12, h⟩ := bnd h
      obtain ⟨t8, A13, h⟩ := bnd h
      obtain ⟨t9, A14, h⟩ := bnd h
      obtain ⟨t10, A15, h⟩ := bnd h
      have h := si h; subst h
      exact pth Tryz.func115 [.r (.s (.i .i64 t1)), .br false, .r (.s (.b t2)), .br false, .r (.s (.b t3)), .br false, .br false, .r (.s (.b t4)), .br false, .br false, .r (.s (.b t5)), .br false, .r (.tu [.ag [.i .u64 bt6.1, .i .i64 bt6.2.1, .i .i64 bt6.2.2.1, .i .i64 bt6.2.2.2.1, .i .u64 bt6.2.2.2.2.1, .i .u64 bt6.2.2.2.2.2.1], .s (.b bt6.2.2.2.2.2.2)]), .r (.s (.sl .u32 t7)), .r (.s (.sl .u32 t8)), .r (.s (.i .u64 t9)), .r (.s (.i .u64 t10))] (fun e => ai (gnomonref08_check.c A1) (ai (n0 c2) (ai (gnomonref05_Nought.c A3) (ai (z0 c4) (ai (gnomonref08_long.c A5) (ai (z0 c6) (ai (z0 c6) (ai (gnomonref08_long.c A7) (ai (z0 c6) (ai (z0 c8) (ai (gnomonref05_Nought.c A9) (ai (z0 c10) (ai (gnomonref07_Of.c A11) (ai (gnomonref01_From.c A12) (ai (gnomonref01_From.c A13) (ai (gnomonref08_Size.c A14) (ai (gnomonref08_signed.c A15) e))))))))))))))))) (by kernel_rfl)
 ·have h := si h; subst h
  exact pth Tryz.func115 [.r (.s (.i .i64 t1)), .br true] (fun e => ai (gnomonref08_check.c A1) (ai (n1 c2) e)) (by kernel_rfl)
end Go.Proofs.YtelfmddcjlocpaaGreatDoor.PLib
