/- Functions of the program as plain Lean functions (definitions as the print's), and that the machine's calls do what they do (contracts 'X.c', by Px). Condition: math/bits' table is laid. -/
import Derived.Test.YtelfmddcjlocpaaGreatDoorKRoundQuotedPxL0
import Derived.Test.YtelfmddcjlocpaaGreatDoorKRoundQuotedPxL1
import Derived.Test.YtelfmddcjlocpaaGreatDoorKRoundQuotedPRefx0
import Derived.Test.YtelfmddcjlocpaaGreatDoorKRoundQuotedPxQ0
import Derived.Test.YtelfmddcjlocpaaGreatDoorKRoundQuotedPRfzx0
import Derived.Test.YtelfmddcjlocpaaGreatDoorKRoundQuotedPxRfz
import Derived.Test.YtelfmddcjlocpaaGreatDoorKRoundQuotedGivenD
import Derived.Test.YtelfmddcjlocpaaGreatDoorKRoundQuotedPxA
import Derived.Laws.CopyOwn
import Derived.Laws.MakeOwn
import Derived.Test.YtelfmddcjlocpaaGreatDoorKRoundQuotedPxV0
import Derived.Test.YtelfmddcjlocpaaGreatDoorKRoundQuotedRoundRootedL
import Derived.Test.YtelfmddcjlocpaaGreatDoorKRoundQuotedPxNd
set_option linter.unusedVariables false
namespace Go.Proofs.YtelfmddcjlocpaaGreatDoor.PLib
open Go Go.RowKit Go.Proofs.YtelfmddcjlocpaaGreatDoorW.PrintWords Go.Proofs.YtelfmddcjlocpaaGreatDoorW.PrintMore Go.Proofs.YtelfmddcjlocpaaGreatDoor.Given Go.Proofs.YtelfmddcjlocpaaGreatDoor.Px Go.Proofs.YtelfmddcjlocpaaGreatDoor.PRef Go.Proofs.YtelfmddcjlocpaaGreatDoor.PRfz
def num_FloorShr.f (k : Nat) (a0_0 : Bool) (l0_1 : List Int) (a1 : Int) : Option (Bool × List Int × Int) := (num_way_shr.f k 0 a0_0 l0_1 a1).bind fun bt1 => (some (bt1.1, bt1.2.1, bt1.2.2))
theorem num_FloorShr.mono : ∀ a0 a1 a2 k, LeO (num_FloorShr.f k a0 a1 a2) (num_FloorShr.f (k + 1) a0 a1 a2) := by
 intro a0 a1 a2 k
 unfold num_FloorShr.f
 repeat' first
  | (with_reducible exact num_way_shr.mono _ _ _ _ _)
  | (with_reducible exact LeO.refl _)
  | (with_reducible exact LeO.none _)
  | (with_reducible refine LeO.ite ?_ ?_)
  | (with_reducible refine LeO.bind ?_ (fun _ => ?_))
theorem num_FloorShr.c {k : Nat} {a0_0 : Bool} {l0_1 : List Int} {a1 : Int} {r : Bool × List Int × Int} (h : num_FloorShr.f k a0_0 l0_1 a1 = some r) : Con Tryz.prog Gw 166 [.ag [.b a0_0, .sl .u64 l0_1], .s (.i .i64 a1)] (· = .tu [.ag [.b r.1, .sl .u64 r.2.1], .s (.i .i64 r.2.2)]) := by
 unfold num_FloorShr.f at h
 obtain ⟨bt1, A1, h⟩ := bnd h
 have h := si h; subst h
 exact pth Tryz.func166 [.r (.tu [.ag [.b bt1.1, .sl .u64 bt1.2.1], .s (.i .i64 bt1.2.2)])] (fun e => ai (num_way_shr.c A1) e) (by kernel_rfl)
def num_CeilShr.f (k : Nat) (a0_0 : Bool) (l0_1 : List Int) (a1 : Int) : Option (Bool × List Int × Int) := (num_way_shr.f k 1 a0_0 l0_1 a1).bind fun bt1 => (some (bt1.1, bt1.2.1, bt1.2.2))
theorem num_CeilShr.mono : ∀ a0 a1 a2 k, LeO (num_CeilShr.f k a0 a1 a2) (num_CeilShr.f (k + 1) a0 a1 a2) := by
 intro a0 a1 a2 k
 unfold num_CeilShr.f
 repeat' first
  | (with_reducible exact num_way_shr.mono _ _ _ _ _)
  | (with_reducible exact LeO.refl _)
  | (with_reducible exact LeO.none _)
  | (with_reducible refine LeO.ite ?_ ?_)
  | (with_reducible refine LeO.bind ?_ (fun _ => ?_))
theorem num_CeilShr.c {k : Nat} {a0_0 : Bool} {l0_1 : List Int} {a1 : Int} {r : Bool × List Int × Int} (h : num_CeilShr.f k a0_0 l0_1 a1 = some r) : Con Tryz.prog Gw 165 [.ag [.b a0_0, .sl .u64 l0_1], .s (.i .i64 a1)] (· = .tu [.ag [.b r.1, .sl .u64 r.2.1], .s (.i .i64 r.2.2)]) := by
 unfold num_CeilShr.f at h
 obtain ⟨bt1, A1, h⟩ := bnd h
 have h := si h; subst h
 exact pth Tryz.func165 [.r (.tu [.ag [.b bt1.1, .sl .u64 bt1.2.1], .s (.i .i64 bt1.2.2)])] (fun e => ai (num_way_shr.c A1) e) (by kernel_rfl)
def dyadic_cut.f (k : Nat) (a0_0 : Bool) (l0_1 : List Int) (a1 : Int) (a2 : Bool) : Option (Bool × List Int) := if a2 = true then ((num_CeilShr.f k a0_0 l0_1 a1).bind fun bt1 => (some (bt1.1, bt1.2.1))) else ((num_FloorShr.f k a0_0 l0_1 a1).bind fun bt2 => (some (bt2.1, bt2.2.1)))
theorem dyadic_cut.mono : ∀ a0 a1 a2 a3 k, LeO (dyadic_cut.f k a0 a1 a2 a3) (dyadic_cut.f (k + 1) a0 a1 a2 a3) := by
 intro a0 a1 a2 a3 k
 unfold dyadic_cut.f
 repeat' first
  | (with_reducible exact num_CeilShr.mono _ _ _ _)
  | (with_reducible exact num_FloorShr.mono _ _ _ _)
  | (with_reducible exact LeO.refl _)
  | (with_reducible exact LeO.none _)
  | (with_reducible refine LeO.ite ?_ ?_)
  | (with_reducible refine LeO.bind ?_ (fun _ => ?_))
theorem dyadic_cut.c {k : Nat} {a0_0 : Bool} {l0_1 : List Int} {a1 : Int} {a2 : Bool} {r : Bool × List Int} (h : dyadic_cut.f k a0_0 l0_1 a1 a2 = some r) : Con Tryz.prog Gw 139 [.ag [.b a0_0, .sl .u64 l0_1], .s (.i .i64 a1), .s (.b a2)] (· = .ag [.b r.1, .sl .u64 r.2]) := by
 unfold dyadic_cut.f at h
 rcases ite_e h with ⟨c1, h⟩ | ⟨c1, h⟩
 ·obtain ⟨bt1, A2, h⟩ := bnd h
  have h := si h; subst h
  exact pth Tryz.func139 [.br true, .r (.tu [.ag [.b bt1.1, .sl .u64 bt1.2.1], .s (.i .i64 bt1.2.2)])] (fun e => ai c1 (ai (num_CeilShr.c A2) e)) (by kernel_rfl)
 ·obtain ⟨bt2, A3, h⟩ := bnd h
  have h := si h; subst h
  exact pth Tryz.func139 [.br false, .r (.tu [.ag [.b bt2.1, .sl .u64 bt2.2.1], .s (.i .i64 bt2.2.2)])] (fun e => ai (z0 c1) (ai (num_FloorShr.c A3) e)) (by kernel_rfl)
def dyadic_short.f (k : Nat) (a0_0 : Bool) (l0_1 : List Int) (a1 : Int) (a2 : Int) (a3 : Bool) : Option (Bool × List Int × Int × Int) := (nat_Bits.f l0_1).bind fun t1 => (if wrap64 (t1 - a2) ≤ 0 then ((dyadic_Make.f k a0_0 l0_1 a1).bind fun bt2 => (some (bt2.1, bt2.2.1, bt2.2.2.1, bt2.2.2.2))) else ((dyadic_cut.f k a0_0 l0_1 (wrap64 (t1 - a2)) a3).bind fun bt3 => ((dyadic_Make.f k bt3.1 bt3.2 (wrap64 (a1 + (wrap64 (t1 - a2))))).bind fun bt4 => (some (bt4.1, bt4.2.1, bt4.2.2.1, bt4.2.2.2)))))
theorem dyadic_short.mono : ∀ a0 a1 a2 a3 a4 k, LeO (dyadic_short.f k a0 a1 a2 a3 a4) (dyadic_short.f (k + 1) a0 a1 a2 a3 a4) := by
 intro a0 a1 a2 a3 a4 k
 unfold dyadic_short.f
 repeat' first
  | (with_reducible exact dyadic_Make.mono _ _ _ _)
  | (with_reducible exact dyadic_cut.mono _ _ _ _ _)
  | (with_reducible exact LeO.refl _)
  | (with_reducible exact LeO.none _)
  | (with_reducible refine LeO.ite ?_ ?_)
  | (with_reducible refine LeO.bind ?_ (fun _ => ?_))
theorem dyadic_short.c {k : Nat} {a0_0 : Bool} {l0_1 : List Int} {a1 : Int} {a2 : Int} {a3 : Bool} {r : Bool × List Int × Int × Int} (h : dyadic_short.f k a0_0 l0_1 a1 a2 a3 = some r) : Con Tryz.prog Gw 94 [.ag [.b a0_0, .sl .u64 l0_1], .s (.i .i64 a1), .s (.i .i64 a2), .s (.b a3)] (· = .tu [.ag [.b r.1, .sl .u64 r.2.1, .i .i64 r.2.2.1], .s (.i .i64 r.2.2.2)]) := by
 unfold dyadic_short.f at h
 obtain ⟨t1, A1, h⟩ := bnd h
 rcases ite_e h with ⟨c2, h⟩ | ⟨c2, h⟩
 ·obtain ⟨bt2, A3, h⟩ := bnd h
  have h := si h; subst h
  exact pth Tryz.func94 [.r (.s (.i .i64 t1)), .br true, .r (.tu [.ag [.b bt2.1, .sl .u64 bt2.2.1, .i .i64 bt2.2.2.1], .s (.i .i64 bt2.2.2.2)])] (fun e => ai (nat_Bits.c A1) (ai (d1 c2) (ai (dyadic_Make.c A3) e))) (by kernel_rfl)
 ·obtain ⟨bt3, A4, h⟩ := bnd h
  obtain ⟨bt4, A5, h⟩ := bnd h
  have h := si h; subst h
  exact pth Tryz.func94 [.r (.s (.i .i64 t1)), .br false, .r (.ag [.b bt3.1, .sl .u64 bt3.2]), .r (.tu [.ag [.b bt4.1, .sl .u64 bt4.2.1, .i .i64 bt4.2.2.1], .s (.i .i64 bt4.2.2.2)])] (fun e => ai (nat_Bits.c A1) (ai (d0 c2) (ai (dyadic_cut.c A4) (ai (dyadic_Make.c A5) e)))) (by kernel_rfl)
def dyadic_precise.f (a0 : Int) : Option (Bool) := if 1 ≤ a0 then (some (decide (a0 ≤ 70000))) else (some false)
theorem dyadic_precise.c {a0 : Int} {r : Bool} (h : dyadic_precise.f a0 = some r) : Con Tryz.prog Gw 93 [.s (.i .i64 a0)] (· = .s (.b r)) := by
 unfold dyadic_precise.f at h
 rcases ite_e h with ⟨c1, h⟩ | ⟨c1, h⟩
 ·have h := si h; subst h
  exact pth Tryz.func93 [.br true, .br true, .br true] (fun e => ai (d1 c1) (ai (d1 c1) (ai (d1 c1) e))) (by kernel_rfl)
 ·have h := si h; subst h
  exact pth Tryz.func93 [.br false, .br false, .br false] (fun e => ai (d0 c1) (ai (d0 c1) (ai (d0 c1) e))) (by kernel_rfl)
def dyadic_quotient.f (k : Nat) (a0_0 : Bool) (l0_1 : List Int) (a0_2 : Int) (a1_0 : Bool) (l1_1 : List Int) (a1_2 : Int) (a2 : Int) (a3 : Bool) : Option (Bool × List Int × Int × Int) := (dyadic_precise.f a2).bind fun t1 => (if t1 = true then ((dyadic_Form.f k a0_0 l0_1 a0_2).bind fun t2 => (if t2 = true then ((dyadic_Form.f k a1_0 l1_1 a1_2).bind fun t3 => (if t3 = true then ((dyadic_nought.f a1_0 l1_1 a1_2).bind fun t4 => (if t4 = true then (some (false, ([] : List Int), 0, 4)) else (if (l0_1.length : Int) > 4096 then (some (false, ([] : List Int), 0, 5)) else (if (l1_1.length : Int) > 4096 then (some (false, ([] : List Int), 0, 5)) else ((nat_Bits.f l1_1).bind fun t5 => ((nat_Bits.f l0_1).bind fun t6 => ((nat_Shl.f l0_1 (mx 0 (wrap64 ((wrap64 ((wrap64 (a2 + 2)) + t5)) - t6)))).bind fun bt7 => ((natdiv_QuoRem.f bt7.1 l1_1).bind fun bt8 => ((nat_Shl.f bt8.1 1).bind fun bt9 => (if (bt8.2.1.length : Int) > 0 then ((nat_Word.f 1).bind fun t10 => ((nat_Add.f bt9.1 t10).bind fun bt11 => (if a0_0 = a1_0 then ((dyadic_short.f k false bt11.1 (wrap64 ((wrap64 ((wrap64 (a0_2 - a1_2)) - (mx 0 (wrap64 ((wrap64 ((wrap64 (a2 + 2)) + t5)) - t6))))) - 1)) a2 a3).bind fun bt12 => (some (bt12.1, bt12.2.1, bt12.2.2.1, bt12.2.2.2))) else ((dyadic_short.f k (decide ((bt11.1.length : Int) > 0)) bt11.1 (wrap64 ((wrap64 ((wrap64 (a0_2 - a1_2)) - (mx 0 (wrap64 ((wrap64 ((wrap64 (a2 + 2)) + t5)) - t6))))) - 1)) a2 a3).bind fun bt13 => (some (bt13.1, bt13.2.1, bt13.2.2.1, bt13.2.2.2)))))) else (if a0_0 = a1_0 then ((dyadic_short.f k false bt9.1 (wrap64 ((wrap64 ((wrap64 (a0_2 - a1_2)) - (mx 0 (wrap64 ((wrap64 ((wrap64 (a2 + 2)) + t5)) - t6))))) - 1)) a2 a3).bind fun bt14 => (some (bt14.1, bt14.2.1, bt14.2.2.1, bt14.2.2.2))) else ((dyadic_short.f k (decide ((bt9.1.length : Int) > 0)) bt9.1 (wrap64 ((wrap64 ((wrap64 (a0_2 - a1_2)) - (mx 0 (wrap64 ((wrap64 ((wrap64 (a2 + 2)) + t5)) - t6))))) - 1)) a2 a3).bind fun bt15 => (some (bt15.1, bt15.2.1, bt15.2.2.1, bt15.2.2.2)))))))))))))) else (some (false, ([] : List Int), 0, 2)))) else (some (false, ([] : List Int), 0, 2)))) else (some (false, ([] : List Int), 0, 1)))
theorem dyadic_quotient.mono : ∀ a0 a1 a2 a3 a4 a5 a6 a7 k, LeO (dyadic_quotient.f k a0 a1 a2 a3 a4 a5 a6 a7) (dyadic_quotient.f (k + 1) a0 a1 a2 a3 a4 a5 a6 a7) := by
 intro a0 a1 a2 a3 a4 a5 a6 a7 k
 unfold dyadic_quotient.f
 repeat' first
  | (with_reducible exact dyadic_Form.mono _ _ _ _)
  | (with_reducible exact dyadic_short.mono _ _ _ _ _ _)
  | (with_reducible exact LeO.refl _)
  | (with_reducible exact LeO.none _)
  | (with_reducible refine LeO.ite ?_ ?_)
  | (with_reducible refine LeO.bind ?_ (fun _ => ?_))
theorem dyadic_quotient.c {k : Nat} {a0_0 : Bool} {l0_1 : List Int} {a0_2 : Int} {a1_0 : Bool} {l1_1 : List Int} {a1_2 : Int} {a2 : Int} {a3 : Bool} {r : Bool × List Int × Int × Int} (h : dyadic_quotient.f k a0_0 l0_1 a0_2 a1_0 l1_1 a1_2 a2 a3 = some r) : Con Tryz.prog Gw 47 [.ag [.b a0_0, .sl .u64 l0_1, .i .i64 a0_2], .ag [.b a1_0, .sl .u64 l1_1, .i .i64 a1_2], .s (.i .i64 a2), .s (.b a3)] (· = .tu [.ag [.b r.1, .sl .u64 r.2.1, .i .i64 r.2.2.1], .s (.i .i64 r.2.2.2)]) := by
 unfold dyadic_quotient.f at h
 obtain ⟨t1, A1, h⟩ := bnd h
 rcases ite_e h with ⟨c2, h⟩ | ⟨c2, h⟩
 ·obtain ⟨t2, A3, h⟩ := bnd h
  rcases ite_e h with ⟨c4, h⟩ | ⟨c4, h⟩
  ·obtain ⟨t3, A5, h⟩ := bnd h
   rcases ite_e h with ⟨c6, h⟩ | ⟨c6, h⟩
   ·obtain ⟨t4, A7, h⟩ := bnd h
    rcases ite_e h with ⟨c8, h⟩ | ⟨c8, h⟩
    ·have h := si h; subst h
     exact pth Tryz.func47 [.r (.s (.b t1)), .br false, .r (.s (.b t2)), .br false, .br false, .r (.s (.b t3)), .br false, .br false, .br false, .r (.s (.b t4)), .br true] (fun e => ai (dyadic_precise.c A1) (ai (nt1 c2) (ai (dyadic_Form.c A3) (ai (nt1 c4) (ai (nt1 c4) (ai (dyadic_Form.c A5) (ai (nt1 c4) (ai (nt1 c4) (ai (nt1 c6) (ai (dyadic_nought.c A7) (ai c8 e))))))))))) (by kernel_rfl)
    ·rcases ite_e h with ⟨c9, h⟩ | ⟨c9, h⟩
     ·have h := si h; subst h
      exact pth Tryz.func47 [.r (.s (.b t1)), .br false, .r (.s (.b t2)), .br false, .br false, .r (.s (.b t3)), .br false, .br false, .br false, .r (.s (.b t4)), .br false, .br true, .br true, .br true, .br true, .br true, .br true, .br true] (fun e => ai (dyadic_precise.c A1) (ai (nt1 c2) (ai (dyadic_Form.c A3) (ai (nt1 c4) (ai (nt1 c4) (ai (dyadic_Form.c A5) (ai (nt1 c4) (ai (nt1 c4) (ai (nt1 c6) (ai (dyadic_nought.c A7) (ai (z0 c8) (ai (d1 c9) (ai (d1 c9) (ai (d1 c9) (ai (d1 c9) (ai (d1 c9) (ai (d1 c9) (ai tt e)))))))))))))))))) (by kernel_rfl)
     ·rcases ite_e h with ⟨c10, h⟩ | ⟨c10, h⟩
      ·have h := si h; subst h
       exact pth Tryz.func47 [.r (.s (.b t1)), .br false, .r (.s (.b t2)), .br false, .br false, .r (.s (.b t3)), .br false, .br false, .br false, .r (.s (.b t4)), .br false, .br false, .br false, .br false, .br false, .br false, .br false, .br true] (fun e => ai (dyadic_precise.c A1) (ai (nt1 c2) (ai (dyadic_Form.c A3) (ai (nt1 c4) (ai (nt1 c4) (ai (dyadic_Form.c A5) (ai (nt1 c4) (ai (nt1 c4) (ai (nt1 c6) (ai (dyadic_nought.c A7) (ai (z0 c8) (ai (d0 c9) (ai (d0 c9) (ai (d0 c9) (ai (d0 c9) (ai (d0 c9) (ai (d0 c9) (ai (d1 c10) e)))))))))))))))))) (by kernel_rfl)
      ·obtain ⟨t5, A11, h⟩ := bnd h
       obtain ⟨t6, A12, h⟩ := bnd h
       obtain ⟨bt7, A13, h⟩ := bnd h
       obtain ⟨bt8, A14, h⟩ := bnd h
       obtain ⟨bt9, A15, h⟩ := bnd h
       rcases ite_e h with ⟨c16, h⟩ | ⟨c16, h⟩
       ·obtain ⟨t10, A17, h⟩ := bnd h
        obtain ⟨bt11, A18, h⟩ := bnd h
        rcases ite_e h with ⟨c19, h⟩ | ⟨c19, h⟩
        ·obtain ⟨bt12, A20, h⟩ := bnd h
         have h := si h; subst h
         exact pth Tryz.func47 [.r (.s (.b t1)), .br false, .r (.s (.b t2)), .br false, .br false, .r (.s (.b t3)), .br false, .br false, .br false, .r (.s (.b t4)), .br false, .br false, .br false, .br false, .br false, .br false, .br false, .br false, .r (.s (.i .i64 t5)), .r (.s (.i .i64 t6)), .r (.tu [.s (.sl .u64 bt7.1), .s (.i .i64 bt7.2)]), .r (.tu [.s (.sl .u64 bt8.1), .s (.sl .u64 bt8.2.1), .s (.i .i64 bt8.2.2)]), .r (.tu [.s (.sl .u64 bt9.1), .s (.i .i64 bt9.2)]), .br true, .r (.s (.sl .u64 t10)), .r (.tu [.s (.sl .u64 bt11.1), .s (.i .i64 bt11.2)]), .br false, .br false, .br false, .br false, .r (.tu [.ag [.b bt12.1, .sl .u64 bt12.2.1, .i .i64 bt12.2.2.1], .s (.i .i64 bt12.2.2.2)])] (fun e => ai (dyadic_precise.c A1) (ai (nt1 c2) (ai (dyadic_Form.c A3) (ai (nt1 c4) (ai (nt1 c4) (ai (dyadic_Form.c A5) (ai (nt1 c4) (ai (nt1 c4) (ai (nt1 c6) (ai (dyadic_nought.c A7) (ai (z0 c8) (ai (d0 c9) (ai (d0 c9) (ai (d0 c9) (ai (d0 c9) (ai (d0 c9) (ai (d0 c9) (ai (d0 c10) (ai (nat_Bits.c A11) (ai (nat_Bits.c A12) (ai (nat_Shl.c A13) (ai (natdiv_QuoRem.c A14) (ai (nat_Shl.c A15) (ai (d1 c16) (ai (nat_Word.c A17) (ai (nat_Add.c A18) (ai (n0 c19) (ai (n0 c19) (ai (n0 c19) (ai (n0 c19) (ai (dyadic_short.c A20) e))))))))))))))))))))))))))))))) (by kernel_rfl)
        ·obtain ⟨bt13, A21, h⟩ := bnd h
         have h := si h; subst h
         exact pth Tryz.func47 [.r (.s (.b t1)), .br false, .r (.s (.b t2)), .br false, .br false, .r (.s (.b t3)), .br false, .br false, .br false, .r (.s (.b t4)), .br false, .br false, .br false, .br false, .br false, .br false, .br false, .br false, .r (.s (.i .i64 t5)), .r (.s (.i .i64 t6)), .r (.tu [.s (.sl .u64 bt7.1), .s (.i .i64 bt7.2)]), .r (.tu [.s (.sl .u64 bt8.1), .s (.sl .u64 bt8.2.1), .s (.i .i64 bt8.2.2)]), .r (.tu [.s (.sl .u64 bt9.1), .s (.i .i64 bt9.2)]), .br true, .r (.s (.sl .u64 t10)), .r (.tu [.s (.sl .u64 bt11.1), .s (.i .i64 bt11.2)]), .br true, .br true, .br true, .br true, .r (.tu [.ag [.b bt13.1, .sl .u64 bt13.2.1, .i .i64 bt13.2.2.1], .s (.i .i64 bt13.2.2.2)])] (fun e => ai (dyadic_precise.c A1) (ai (nt1 c2) (ai (dyadic_Form.c A3) (ai (nt1 c4) (ai (nt1 c4) (ai (dyadic_Form.c A5) (ai (nt1 c4) (ai (nt1 c4) (ai (nt1 c6) (ai (dyadic_nought.c A7) (ai (z0 c8) (ai (d0 c9) (ai (d0 c9) (ai (d0 c9) (ai (d0 c9) (ai (d0 c9) (ai (d0 c9) (ai (d0 c10) (ai (nat_Bits.c A11) (ai (nat_Bits.c A12) (ai (nat_Shl.c A13) (ai (natdiv_QuoRem.c A14) (ai (nat_Shl.c A15) (ai (d1 c16) (ai (nat_Word.c A17) (ai (nat_Add.c A18) (ai (n1 c19) (ai (n1 c19) (ai (n1 c19) (ai (n1 c19) (ai (dyadic_short.c A21) e))))))))))))))))))))))))))))))) (by kernel_rfl)
       ·rcases ite_e h with ⟨c22, h⟩ | ⟨c22, h⟩
        ·obtain ⟨bt14, A23, h⟩ := bnd h
         have h := si h; subst h
         exact pth Tryz.func47 [.r (.s (.b t1)), .br false, .r (.s (.b t2)), .br false, .br false, .r (.s (.b t3)), .br false, .br false, .br false, .r (.s (.b t4)), .br false, .br false, .br false, .br false, .br false, .br false, .br false, .br false, .r (.s (.i .i64 t5)), .r (.s (.i .i64 t6)), .r (.tu [.s (.sl .u64 bt7.1), .s (.i .i64 bt7.2)]), .r (.tu [.s (.sl .u64 bt8.1), .s (.sl .u64 bt8.2.1), .s (.i .i64 bt8.2.2)]), .r (.tu [.s (.sl .u64 bt9.1), .s (.i .i64 bt9.2)]), .br false, .br false, .br false, .br false, .br false, .r (.tu [.ag [.b bt14.1, .sl .u64 bt14.2.1, .i .i64 bt14.2.2.1], .s (.i .i64 bt14.2.2.2)])] (fun e => ai (dyadic_precise.c A1) (ai (nt1 c2) (ai (dyadic_Form.c A3) (ai (nt1 c4) (ai (nt1 c4) (ai (dyadic_Form.c A5) (ai (nt1 c4) (ai (nt1 c4) (ai (nt1 c6) (ai (dyadic_nought.c A7) (ai (z0 c8) (ai (d0 c9) (ai (d0 c9) (ai (d0 c9) (ai (d0 c9) (ai (d0 c9) (ai (d0 c9) (ai (d0 c10) (ai (nat_Bits.c A11) (ai (nat_Bits.c A12) (ai (nat_Shl.c A13) (ai (natdiv_QuoRem.c A14) (ai (nat_Shl.c A15) (ai (d0 c16) (ai (n0 c22) (ai (n0 c22) (ai (n0 c22) (ai (n0 c22) (ai (dyadic_short.c A23) e))))))))))))))))))))))))))))) (by kernel_rfl)
        ·obtain ⟨bt15, A24, h⟩ := bnd h
         have h := si h; subst h
         exact pth Tryz.func47 [.r (.s (.b t1)), .br false, .r (.s (.b t2)), .br false, .br false, .r (.s (.b t3)), .br false, .br false, .br false, .r (.s (.b t4)), .br false, .br false, .br false, .br false, .br false, .br false, .br false, .br false, .r (.s (.i .i64 t5)), .r (.s (.i .i64 t6)), .r (.tu [.s (.sl .u64 bt7.1), .s (.i .i64 bt7.2)]), .r (.tu [.s (.sl .u64 bt8.1), .s (.sl .u64 bt8.2.1), .s (.i .i64 bt8.2.2)]), .r (.tu [.s (.sl .u64 bt9.1), .s (.i .i64 bt9.2)]), .br false, .br true, .br true, .br true, .br true, .r (.tu [.ag [.b bt15.1, .sl .u64 bt15.2.1, .i .i64 bt15.2.2.1], .s (.i .i64 bt15.2.2.2)])] (fun e => ai (dyadic_precise.c A1) (ai (nt1 c2) (ai (dyadic_Form.c A3) (ai (nt1 c4) (ai (nt1 c4) (ai (dyadic_Form.c A5) (ai (nt1 c4) (ai (nt1 c4) (ai (nt1 c6) (ai (dyadic_nought.c A7) (ai (z0 c8) (ai (d0 c9) (ai (d0 c9) (ai (d0 c9) (ai (d0 c9) (ai (d0 c9) (ai (d0 c9) (ai (d0 c10) (ai (nat_Bits.c A11) (ai (nat_Bits.c A12) (ai (nat_Shl.c A13) (ai (natdiv_QuoRem.c A14) (ai (nat_Shl.c A15) (ai (d0 c16) (ai (n1 c22) (ai (n1 c22) (ai (n1 c22) (ai (n1 c22) (ai (dyadic_short.c A24) e))))))))))))))))))))))))))))) (by kernel_rfl)
   ·have h := si h; subst h
    exact pth Tryz.func47 [.r (.s (.b t1)), .br false, .r (.s (.b t2)), .br false, .br false, .r (.s (.b t3)), .br false, .br false, .br true] (fun e => ai (dyadic_precise.c A1) (ai (nt1 c2) (ai (dyadic_Form.c A3) (ai (nt1 c4) (ai (nt1 c4) (ai (dyadic_Form.c A5) (ai (nt1 c4) (ai (nt1 c4) (ai (nt0 (z0 c6)) e))))))))) (by kernel_rfl)
  ·have h := si h; subst h
   exact pth Tryz.func47 [.r (.s (.b t1)), .br false, .r (.s (.b t2)), .br true, .br true, .br true, .br true, .br true] (fun e => ai (dyadic_precise.c A1) (ai (nt1 c2) (ai (dyadic_Form.c A3) (ai (nt0 (z0 c4)) (ai (nt0 (z0 c4)) (ai (nt0 (z0 c4)) (ai (nt0 (z0 c4)) (ai tt e)))))))) (by kernel_rfl)
 ·have h := si h; subst h
  exact pth Tryz.func47 [.r (.s (.b t1)), .br true] (fun e => ai (dyadic_precise.c A1) (ai (nt0 (z0 c2)) e)) (by kernel_rfl)
def dyadic_QuoDown.f (k : Nat) (a0_0 : Bool) (l0_1 : List Int) (a0_2 : Int) (a1_0 : Bool) (l1_1 : List Int) (a1_2 : Int) (a2 : Int) : Option (Bool × List Int × Int × Int) := (dyadic_quotient.f k a0_0 l0_1 a0_2 a1_0 l1_1 a1_2 a2 false).bind fun bt1 => (some (bt1.1, bt1.2.1, bt1.2.2.1, bt1.2.2.2))
theorem dyadic_QuoDown.mono : ∀ a0 a1 a2 a3 a4 a5 a6 k, LeO (dyadic_QuoDown.f k a0 a1 a2 a3 a4 a5 a6) (dyadic_QuoDown.f (k + 1) a0 a1 a2 a3 a4 a5 a6) := by
 intro a0 a1 a2 a3 a4 a5 a6 k
 unfold dyadic_QuoDown.f
 repeat' first
  | (with_reducible exact dyadic_quotient.mono _ _ _ _ _ _ _ _ _)
  | (with_reducible exact LeO.refl _)
  | (with_reducible exact LeO.none _)
  | (with_reducible refine LeO.ite ?_ ?_)
  | (with_reducible refine LeO.bind ?_ (fun _ => ?_))
theorem dyadic_QuoDown.c {k : Nat} {a0_0 : Bool} {l0_1 : List Int} {a0_2 : Int} {a1_0 : Bool} {l1_1 : List Int} {a1_2 : Int} {a2 : Int} {r : Bool × List Int × Int × Int} (h : dyadic_QuoDown.f k a0_0 l0_1 a0_2 a1_0 l1_1 a1_2 a2 = some r) : Con Tryz.prog Gw 18 [.ag [.b a0_0, .sl .u64 l0_1, .i .i64 a0_2], .ag [.b a1_0, .sl .u64 l1_1, .i .i64 a1_2], .s (.i .i64 a2)] (· = .tu [.ag [.b r.1, .sl .u64 r.2.1, .i .i64 r.2.2.1], .s (.i .i64 r.2.2.2)]) := by
 unfold dyadic_QuoDown.f at h
 obtain ⟨bt1, A1, h⟩ := bnd h
 have h := si h; subst h
 exact pth Tryz.func18 [.r (.tu [.ag [.b bt1.1, .sl .u64 bt1.2.1, .i .i64 bt1.2.2.1], .s (.i .i64 bt1.2.2.2)])] (fun e => ai (dyadic_quotient.c A1) e) (by kernel_rfl)
def dyadic_QuoUp.f (k : Nat) (a0_0 : Bool) (l0_1 : List Int) (a0_2 : Int) (a1_0 : Bool) (l1_1 : List Int) (a1_2 : Int) (a2 : Int) : Option (Bool × List Int × Int × Int) := (dyadic_quotient.f k a0_0 l0_1 a0_2 a1_0 l1_1 a1_2 a2 true).bind fun bt1 => (some (bt1.1, bt1.2.1, bt1.2.2.1, bt1.2.2.2))
theorem dyadic_QuoUp.mono : ∀ a0 a1 a2 a3 a4 a5 a6 k, LeO (dyadic_QuoUp.f k a0 a1 a2 a3 a4 a5 a6) (dyadic_QuoUp.f (k + 1) a0 a1 a2 a3 a4 a5 a6) := by
 intro a0 a1 a2 a3 a4 a5 a6 k
 unfold dyadic_QuoUp.f
 repeat' first
  | (with_reducible exact dyadic_quotient.mono _ _ _ _ _ _ _ _ _)
  | (with_reducible exact LeO.refl _)
  | (with_reducible exact LeO.none _)
  | (with_reducible refine LeO.ite ?_ ?_)
  | (with_reducible refine LeO.bind ?_ (fun _ => ?_))
theorem dyadic_QuoUp.c {k : Nat} {a0_0 : Bool} {l0_1 : List Int} {a0_2 : Int} {a1_0 : Bool} {l1_1 : List Int} {a1_2 : Int} {a2 : Int} {r : Bool × List Int × Int × Int} (h : dyadic_QuoUp.f k a0_0 l0_1 a0_2 a1_0 l1_1 a1_2 a2 = some r) : Con Tryz.prog Gw 19 [.ag [.b a0_0, .sl .u64 l0_1, .i .i64 a0_2], .ag [.b a1_0, .sl .u64 l1_1, .i .i64 a1_2], .s (.i .i64 a2)] (· = .tu [.ag [.b r.1, .sl .u64 r.2.1, .i .i64 r.2.2.1], .s (.i .i64 r.2.2.2)]) := by
 unfold dyadic_QuoUp.f at h
 obtain ⟨bt1, A1, h⟩ := bnd h
 have h := si h; subst h
 exact pth Tryz.func19 [.r (.tu [.ag [.b bt1.1, .sl .u64 bt1.2.1, .i .i64 bt1.2.2.1], .s (.i .i64 bt1.2.2.2)])] (fun e => ai (dyadic_quotient.c A1) e) (by kernel_rfl)
end Go.Proofs.YtelfmddcjlocpaaGreatDoor.PLib
