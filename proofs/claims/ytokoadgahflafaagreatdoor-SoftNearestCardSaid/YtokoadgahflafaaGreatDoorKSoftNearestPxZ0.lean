/- Functions of the program as plain Lean functions (definitions as the print's), and that the machine's calls do what they do (contracts 'X.c', by Px). Condition: math/bits' table is laid. -/
import Derived.Test.YtokoadgahflafaaGreatDoorKSoftNearestPxL0
import Derived.Test.YtokoadgahflafaaGreatDoorKSoftNearestPxL1
import Derived.Test.YtokoadgahflafaaGreatDoorKSoftNearestPxL2
import Derived.Test.YtokoadgahflafaaGreatDoorKSoftNearestPxL3
import Derived.Test.YtokoadgahflafaaGreatDoorKSoftNearestPxL4
import Derived.Test.YtokoadgahflafaaGreatDoorKSoftNearestSoftRootOfSquareL
import Derived.Test.YtokoadgahflafaaGreatDoorKSoftNearestPxOp
import Derived.Test.YtokoadgahflafaaGreatDoorKSoftNearestPxRef
set_option linter.unusedVariables false
namespace Go.Proofs.YtokoadgahflafaaGreatDoor.PLib
open Go Go.RowKit Go.Proofs.YtokoadgahflafaaGreatDoorW.PrintWords Go.Proofs.YtokoadgahflafaaGreatDoorW.PrintMore Go.Proofs.YtokoadgahflafaaGreatDoor.Given Go.Proofs.YtokoadgahflafaaGreatDoor.Px Go.Proofs.YtokoadgahflafaaGreatDoor.PRef
def gnomonref04_Mk.f (k : Nat) (a0 : Bool) (l1 : List Int) : Option (Bool × List Int) := (gnomonref01_Norm.f k l1).bind fun t167 => (if a0 = true then (some (decide ((t167.length : Int) > 0), t167)) else (some (false, t167)))
theorem gnomonref04_Mk.mono : ∀ a0 a1 k, LeO (gnomonref04_Mk.f k a0 a1) (gnomonref04_Mk.f (k + 1) a0 a1) := by
 intro a0 a1 k
 unfold gnomonref04_Mk.f
 repeat' first
   | (with_reducible exact gnomonref01_Norm.mono _ _)
   | (with_reducible exact LeO.refl _)
   | (with_reducible exact LeO.none _)
   | (with_reducible refine LeO.ite ?_ ?_)
   | (with_reducible refine LeO.bind ?_ (fun _ => ?_))
   | exact gnomonref01_Norm.mono _ _
   | exact LeO.none _
   | refine LeO.ite ?_ ?_
   | refine LeO.bind ?_ (fun _ => ?_)
theorem gnomonref04_Mk.c {k : Nat} {a0 : Bool} {l1 : List Int} {r : Bool × List Int} (h : gnomonref04_Mk.f k a0 l1 = some r) : Con Tryz.prog Gw 29 [.s (.b a0), .s (.sl .u32 l1)] (· = .ag [.b r.1, .sl .u32 r.2]) := by
 unfold gnomonref04_Mk.f at h
 obtain ⟨t167, A1, h⟩ := bnd h
 rcases ite_e h with ⟨c2, h⟩ | ⟨c2, h⟩
 ·have h := si h; subst h
  exact pth Tryz.func29 [.r (.s (.sl .u32 t167)), .br true, .br true, .br true, .br true] (fun e => ai (gnomonref01_Norm.c A1) (ai c2 (ai c2 (ai c2 (ai c2 e))))) (by kernel_rfl)
 ·have h := si h; subst h
  exact pth Tryz.func29 [.r (.s (.sl .u32 t167)), .br false, .br false, .br false, .br false] (fun e => ai (gnomonref01_Norm.c A1) (ai (z0 c2) (ai (z0 c2) (ai (z0 c2) (ai (z0 c2) e))))) (by kernel_rfl)
def gnomonref04_Of.f (k : Nat) (a0 : Int) : Option (Bool × List Int) := if a0 < 0 then ((gnomonref01_Word.f k (IntKind.u64.wrap (wrap64 (-(wrap64 (a0 + 1)))))).bind fun t236 => ((gnomonref01_Word.f k 1).bind fun t239 => ((gnomonref01_Add.f k t236 t239).bind fun t242 => ((gnomonref04_Mk.f k true t242).bind fun bt245 => (some (bt245.1, bt245.2)))))) else ((gnomonref01_Word.f k (IntKind.u64.wrap (a0))).bind fun t249 => ((gnomonref04_Mk.f k false t249).bind fun bt252 => (some (bt252.1, bt252.2))))
theorem gnomonref04_Of.mono : ∀ a0 k, LeO (gnomonref04_Of.f k a0) (gnomonref04_Of.f (k + 1) a0) := by
 intro a0 k
 unfold gnomonref04_Of.f
 repeat' first
   | (with_reducible exact gnomonref01_Add.mono _ _ _)
   | (with_reducible exact gnomonref01_Word.mono _ _)
   | (with_reducible exact gnomonref04_Mk.mono _ _ _)
   | (with_reducible exact LeO.refl _)
   | (with_reducible exact LeO.none _)
   | (with_reducible refine LeO.ite ?_ ?_)
   | (with_reducible refine LeO.bind ?_ (fun _ => ?_))
   | exact gnomonref01_Add.mono _ _ _
   | exact gnomonref01_Word.mono _ _
   | exact gnomonref04_Mk.mono _ _ _
   | exact LeO.none _
   | refine LeO.ite ?_ ?_
   | refine LeO.bind ?_ (fun _ => ?_)
theorem gnomonref04_Of.c {k : Nat} {a0 : Int} {r : Bool × List Int} (h : gnomonref04_Of.f k a0 = some r) : Con Tryz.prog Gw 28 [.s (.i .i64 a0)] (· = .ag [.b r.1, .sl .u32 r.2]) := by
 unfold gnomonref04_Of.f at h
 rcases ite_e h with ⟨c1, h⟩ | ⟨c1, h⟩
 ·obtain ⟨t236, A2, h⟩ := bnd h
  obtain ⟨t239, A3, h⟩ := bnd h
  obtain ⟨t242, A4, h⟩ := bnd h
  obtain ⟨bt245, A5, h⟩ := bnd h
  have h := si h; subst h
  exact pth Tryz.func28 [.br true, .r (.s (.sl .u32 t236)), .r (.s (.sl .u32 t239)), .r (.s (.sl .u32 t242)), .r (.ag [.b bt245.1, .sl .u32 bt245.2])] (fun e => ai (d1 c1) (ai (gnomonref01_Word.c A2) (ai (gnomonref01_Word.c A3) (ai (gnomonref01_Add.c A4) (ai (gnomonref04_Mk.c A5) e))))) (by kernel_rfl)
 ·obtain ⟨t249, A6, h⟩ := bnd h
  obtain ⟨bt252, A7, h⟩ := bnd h
  have h := si h; subst h
  exact pth Tryz.func28 [.br false, .r (.s (.sl .u32 t249)), .r (.ag [.b bt252.1, .sl .u32 bt252.2])] (fun e => ai (d0 c1) (ai (gnomonref01_Word.c A6) (ai (gnomonref04_Mk.c A7) e))) (by kernel_rfl)
def gnomonref04_Sign.f (a0_0 : Bool) (l0_1 : List Int) : Option (Int) := if (l0_1.length : Int) = 0 then (some 0) else (if a0_0 = true then (some (-1)) else (some 1))
theorem gnomonref04_Sign.c {a0_0 : Bool} {l0_1 : List Int} {r : Int} (h : gnomonref04_Sign.f a0_0 l0_1 = some r) : Con Tryz.prog Gw 32 [.ag [.b a0_0, .sl .u32 l0_1]] (· = .s (.i .i64 r)) := by
 unfold gnomonref04_Sign.f at h
 rcases ite_e h with ⟨c1, h⟩ | ⟨c1, h⟩
 ·have h := si h; subst h
  exact pth Tryz.func32 [.br true] (fun e => ai (q1 c1) e) (by kernel_rfl)
 ·rcases ite_e h with ⟨c2, h⟩ | ⟨c2, h⟩
  ·have h := si h; subst h
   exact pth Tryz.func32 [.br false, .br true] (fun e => ai (q0 c1) (ai c2 e)) (by kernel_rfl)
  ·have h := si h; subst h
   exact pth Tryz.func32 [.br false, .br false] (fun e => ai (q0 c1) (ai (z0 c2) e)) (by kernel_rfl)
def gnomonref04_Shl.f (k : Nat) (a0_0 : Bool) (l0_1 : List Int) (a1 : Int) : Option (Bool × List Int) := (gnomonref01_Shl.f k l0_1 a1).bind fun t1 => ((gnomonref04_Mk.f k a0_0 t1).bind fun bt2 => (some (bt2.1, bt2.2)))
theorem gnomonref04_Shl.mono : ∀ a0 a1 a2 k, LeO (gnomonref04_Shl.f k a0 a1 a2) (gnomonref04_Shl.f (k + 1) a0 a1 a2) := by
 intro a0 a1 a2 k
 unfold gnomonref04_Shl.f
 repeat' first
  | (with_reducible exact gnomonref01_Shl.mono _ _ _)
  | (with_reducible exact gnomonref04_Mk.mono _ _ _)
  | (with_reducible exact LeO.refl _)
  | (with_reducible exact LeO.none _)
  | (with_reducible refine LeO.ite ?_ ?_)
  | (with_reducible refine LeO.bind ?_ (fun _ => ?_))
theorem gnomonref04_Shl.c {k : Nat} {a0_0 : Bool} {l0_1 : List Int} {a1 : Int} {r : Bool × List Int} (h : gnomonref04_Shl.f k a0_0 l0_1 a1 = some r) : Con Tryz.prog Gw 35 [.ag [.b a0_0, .sl .u32 l0_1], .s (.i .i64 a1)] (· = .ag [.b r.1, .sl .u32 r.2]) := by
 unfold gnomonref04_Shl.f at h
 obtain ⟨t1, A1, h⟩ := bnd h
 obtain ⟨bt2, A2, h⟩ := bnd h
 have h := si h; subst h
 exact pth Tryz.func35 [.r (.s (.sl .u32 t1)), .r (.ag [.b bt2.1, .sl .u32 bt2.2])] (fun e => ai (gnomonref01_Shl.c A1) (ai (gnomonref04_Mk.c A2) e)) (by kernel_rfl)
def gnomonref04_Flip.f (k : Nat) (a0_0 : Bool) (l0_1 : List Int) : Option (Bool × List Int) := (gnomonref04_Mk.f k (!a0_0) l0_1).bind fun bt1 => (some (bt1.1, bt1.2))
theorem gnomonref04_Flip.mono : ∀ a0 a1 k, LeO (gnomonref04_Flip.f k a0 a1) (gnomonref04_Flip.f (k + 1) a0 a1) := by
 intro a0 a1 k
 unfold gnomonref04_Flip.f
 repeat' first
  | (with_reducible exact gnomonref04_Mk.mono _ _ _)
  | (with_reducible exact LeO.refl _)
  | (with_reducible exact LeO.none _)
  | (with_reducible refine LeO.ite ?_ ?_)
  | (with_reducible refine LeO.bind ?_ (fun _ => ?_))
theorem gnomonref04_Flip.c {k : Nat} {a0_0 : Bool} {l0_1 : List Int} {r : Bool × List Int} (h : gnomonref04_Flip.f k a0_0 l0_1 = some r) : Con Tryz.prog Gw 36 [.ag [.b a0_0, .sl .u32 l0_1]] (· = .ag [.b r.1, .sl .u32 r.2]) := by
 unfold gnomonref04_Flip.f at h
 obtain ⟨bt1, A1, h⟩ := bnd h
 have h := si h; subst h
 exact pth Tryz.func36 [.r (.ag [.b bt1.1, .sl .u32 bt1.2])] (fun e => ai (gnomonref04_Mk.c A1) e) (by kernel_rfl)
def gnomonref04_Abs.f (k : Nat) (a0_0 : Bool) (l0_1 : List Int) : Option (Bool × List Int) := (gnomonref04_Mk.f k false l0_1).bind fun bt1 => (some (bt1.1, bt1.2))
theorem gnomonref04_Abs.mono : ∀ a0 a1 k, LeO (gnomonref04_Abs.f k a0 a1) (gnomonref04_Abs.f (k + 1) a0 a1) := by
 intro a0 a1 k
 unfold gnomonref04_Abs.f
 repeat' first
  | (with_reducible exact gnomonref04_Mk.mono _ _ _)
  | (with_reducible exact LeO.refl _)
  | (with_reducible exact LeO.none _)
  | (with_reducible refine LeO.ite ?_ ?_)
  | (with_reducible refine LeO.bind ?_ (fun _ => ?_))
theorem gnomonref04_Abs.c {k : Nat} {a0_0 : Bool} {l0_1 : List Int} {r : Bool × List Int} (h : gnomonref04_Abs.f k a0_0 l0_1 = some r) : Con Tryz.prog Gw 37 [.ag [.b a0_0, .sl .u32 l0_1]] (· = .ag [.b r.1, .sl .u32 r.2]) := by
 unfold gnomonref04_Abs.f at h
 obtain ⟨bt1, A1, h⟩ := bnd h
 have h := si h; subst h
 exact pth Tryz.func37 [.r (.ag [.b bt1.1, .sl .u32 bt1.2])] (fun e => ai (gnomonref04_Mk.c A1) e) (by kernel_rfl)
def gnomonref07_Parts.f (a0_0 : Int) (a0_1 : Int) (a0_2 : Int) (a0_3 : Int) (a0_4 : Int) (a0_5 : Int) (a1 : Int) : Option (Int × Int) := if 0 ≤ wrap64 (a0_1 - 1) then (if shl .u64 1 (wrap64 (a0_1 - 1)) = 0 then (none) else (if (IntKind.u64.wrap (Int.tdiv a1 (shl .u64 1 (wrap64 (a0_1 - 1))))) = 0 then (some (Int.tmod a1 (shl .u64 1 (wrap64 (a0_1 - 1))), a0_2)) else (some (IntKind.u64.wrap ((shl .u64 1 (wrap64 (a0_1 - 1))) + (Int.tmod a1 (shl .u64 1 (wrap64 (a0_1 - 1))))), wrap64 ((wrap64 (a0_2 + (wrap64 (IntKind.u64.wrap (Int.tdiv a1 (shl .u64 1 (wrap64 (a0_1 - 1)))))))) - 1))))) else (none)
theorem gnomonref07_Parts.c {a0_0 : Int} {a0_1 : Int} {a0_2 : Int} {a0_3 : Int} {a0_4 : Int} {a0_5 : Int} {a1 : Int} {r : Int × Int} (h : gnomonref07_Parts.f a0_0 a0_1 a0_2 a0_3 a0_4 a0_5 a1 = some r) : Con Tryz.prog Gw 125 [.ag [.i .u64 a0_0, .i .i64 a0_1, .i .i64 a0_2, .i .i64 a0_3, .i .u64 a0_4, .i .u64 a0_5], .s (.i .u64 a1)] (· = .tu [.s (.i .u64 r.1), .s (.i .i64 r.2)]) := by
 unfold gnomonref07_Parts.f at h
 rcases ite_e h with ⟨c1, h⟩ | ⟨c1, h⟩
 ·rcases ite_e h with ⟨c2, h⟩ | ⟨c2, h⟩
  ·cases h
  ·rcases ite_e h with ⟨c3, h⟩ | ⟨c3, h⟩
   ·have h := si h; subst h
    exact pth Tryz.func125 [.br true] (fun e => ai c1 (ai c2 (ai c2 (ai (q1 c3) e)))) (by kernel_rfl)
   ·have h := si h; subst h
    exact pth Tryz.func125 [.br false] (fun e => ai c1 (ai c2 (ai c2 (ai (q0 c3) e)))) (by kernel_rfl)
 ·cases h
def gnomonref07_Whole.f (k : Nat) (a0_0 : Int) (a0_1 : Int) (a0_2 : Int) (a0_3 : Int) (a0_4 : Int) (a0_5 : Int) (a1 : Int) : Option (Bool × List Int) := (gnomonref07_Cut.f a0_0 a0_1 a0_2 a0_3 a0_4 a0_5 a1).bind fun bt1 => ((gnomonref07_Parts.f a0_0 a0_1 a0_2 a0_3 a0_4 a0_5 bt1.2).bind fun bt2 => ((gnomonref01_Word.f k bt2.1).bind fun t3 => ((gnomonref01_Shl.f k t3 (wrap64 (bt2.2 - a0_2))).bind fun t4 => ((gnomonref04_Mk.f k bt1.1 t4).bind fun bt5 => (some (bt5.1, bt5.2))))))
theorem gnomonref07_Whole.mono : ∀ a0 a1 a2 a3 a4 a5 a6 k, LeO (gnomonref07_Whole.f k a0 a1 a2 a3 a4 a5 a6) (gnomonref07_Whole.f (k + 1) a0 a1 a2 a3 a4 a5 a6) := by
 intro a0 a1 a2 a3 a4 a5 a6 k
 unfold gnomonref07_Whole.f
 repeat' first
  | (with_reducible exact gnomonref01_Shl.mono _ _ _)
  | (with_reducible exact gnomonref01_Word.mono _ _)
  | (with_reducible exact gnomonref04_Mk.mono _ _ _)
  | (with_reducible exact LeO.refl _)
  | (with_reducible exact LeO.none _)
  | (with_reducible refine LeO.ite ?_ ?_)
  | (with_reducible refine LeO.bind ?_ (fun _ => ?_))
theorem gnomonref07_Whole.c {k : Nat} {a0_0 : Int} {a0_1 : Int} {a0_2 : Int} {a0_3 : Int} {a0_4 : Int} {a0_5 : Int} {a1 : Int} {r : Bool × List Int} (h : gnomonref07_Whole.f k a0_0 a0_1 a0_2 a0_3 a0_4 a0_5 a1 = some r) : Con Tryz.prog Gw 68 [.ag [.i .u64 a0_0, .i .i64 a0_1, .i .i64 a0_2, .i .i64 a0_3, .i .u64 a0_4, .i .u64 a0_5], .s (.i .u64 a1)] (· = .ag [.b r.1, .sl .u32 r.2]) := by
 unfold gnomonref07_Whole.f at h
 obtain ⟨bt1, A1, h⟩ := bnd h
 obtain ⟨bt2, A2, h⟩ := bnd h
 obtain ⟨t3, A3, h⟩ := bnd h
 obtain ⟨t4, A4, h⟩ := bnd h
 obtain ⟨bt5, A5, h⟩ := bnd h
 have h := si h; subst h
 exact pth Tryz.func68 [.r (.tu [.s (.b bt1.1), .s (.i .u64 bt1.2)]), .r (.tu [.s (.i .u64 bt2.1), .s (.i .i64 bt2.2)]), .r (.s (.sl .u32 t3)), .r (.s (.sl .u32 t4)), .r (.ag [.b bt5.1, .sl .u32 bt5.2])] (fun e => ai (gnomonref07_Cut.c A1) (ai (gnomonref07_Parts.c A2) (ai (gnomonref01_Word.c A3) (ai (gnomonref01_Shl.c A4) (ai (gnomonref04_Mk.c A5) e))))) (by kernel_rfl)
def gnomonlaw09_units.f (k : Nat) (a0_0 : Int) (a0_1 : Int) (a0_2 : Int) (a0_3 : Int) (a0_4 : Int) (a0_5 : Int) (a1 : Int) : Option (Bool × List Int) := (gnomonref07_Whole.f k a0_0 a0_1 a0_2 a0_3 a0_4 a0_5 a1).bind fun bt1 => (some (bt1.1, bt1.2))
theorem gnomonlaw09_units.mono : ∀ a0 a1 a2 a3 a4 a5 a6 k, LeO (gnomonlaw09_units.f k a0 a1 a2 a3 a4 a5 a6) (gnomonlaw09_units.f (k + 1) a0 a1 a2 a3 a4 a5 a6) := by
 intro a0 a1 a2 a3 a4 a5 a6 k
 unfold gnomonlaw09_units.f
 repeat' first
  | (with_reducible exact gnomonref07_Whole.mono _ _ _ _ _ _ _ _)
  | (with_reducible exact LeO.refl _)
  | (with_reducible exact LeO.none _)
  | (with_reducible refine LeO.ite ?_ ?_)
  | (with_reducible refine LeO.bind ?_ (fun _ => ?_))
theorem gnomonlaw09_units.c {k : Nat} {a0_0 : Int} {a0_1 : Int} {a0_2 : Int} {a0_3 : Int} {a0_4 : Int} {a0_5 : Int} {a1 : Int} {r : Bool × List Int} (h : gnomonlaw09_units.f k a0_0 a0_1 a0_2 a0_3 a0_4 a0_5 a1 = some r) : Con Tryz.prog Gw 27 [.ag [.i .u64 a0_0, .i .i64 a0_1, .i .i64 a0_2, .i .i64 a0_3, .i .u64 a0_4, .i .u64 a0_5], .s (.i .u64 a1)] (· = .ag [.b r.1, .sl .u32 r.2]) := by
 unfold gnomonlaw09_units.f at h
 obtain ⟨bt1, A1, h⟩ := bnd h
 have h := si h; subst h
 exact pth Tryz.func27 [.r (.ag [.b bt1.1, .sl .u32 bt1.2])] (fun e => ai (gnomonref07_Whole.c A1) e) (by kernel_rfl)
def gnomonref04_Add.f (k : Nat) (a0_0 : Bool) (l0_1 : List Int) (a1_0 : Bool) (l1_1 : List Int) : Option (Bool × List Int) := if a0_0 = a1_0 then ((gnomonref01_Add.f k l0_1 l1_1).bind fun t1 => ((gnomonref04_Mk.f k a0_0 t1).bind fun bt2 => (some (bt2.1, bt2.2)))) else ((gnomonref01_Cmp.f k l0_1 l1_1).bind fun t3 => (if t3 ≥ 0 then ((gnomonref01_Sub.f k l0_1 l1_1).bind fun t4 => ((gnomonref04_Mk.f k a0_0 t4).bind fun bt5 => (some (bt5.1, bt5.2)))) else ((gnomonref01_Sub.f k l1_1 l0_1).bind fun t6 => ((gnomonref04_Mk.f k a1_0 t6).bind fun bt7 => (some (bt7.1, bt7.2))))))
theorem gnomonref04_Add.mono : ∀ a0 a1 a2 a3 k, LeO (gnomonref04_Add.f k a0 a1 a2 a3) (gnomonref04_Add.f (k + 1) a0 a1 a2 a3) := by
 intro a0 a1 a2 a3 k
 unfold gnomonref04_Add.f
 repeat' first
  | (with_reducible exact gnomonref01_Add.mono _ _ _)
  | (with_reducible exact gnomonref01_Cmp.mono _ _ _)
  | (with_reducible exact gnomonref01_Sub.mono _ _ _)
  | (with_reducible exact gnomonref04_Mk.mono _ _ _)
  | (with_reducible exact LeO.refl _)
  | (with_reducible exact LeO.none _)
  | (with_reducible refine LeO.ite ?_ ?_)
  | (with_reducible refine LeO.bind ?_ (fun _ => ?_))
theorem gnomonref04_Add.c {k : Nat} {a0_0 : Bool} {l0_1 : List Int} {a1_0 : Bool} {l1_1 : List Int} {r : Bool × List Int} (h : gnomonref04_Add.f k a0_0 l0_1 a1_0 l1_1 = some r) : Con Tryz.prog Gw 31 [.ag [.b a0_0, .sl .u32 l0_1], .ag [.b a1_0, .sl .u32 l1_1]] (· = .ag [.b r.1, .sl .u32 r.2]) := by
 unfold gnomonref04_Add.f at h
 rcases ite_e h with ⟨c1, h⟩ | ⟨c1, h⟩
 ·obtain ⟨t1, A2, h⟩ := bnd h
  obtain ⟨bt2, A3, h⟩ := bnd h
  have h := si h; subst h
  exact pth Tryz.func31 [.br true, .r (.s (.sl .u32 t1)), .r (.ag [.b bt2.1, .sl .u32 bt2.2])] (fun e => ai (q1 c1) (ai (gnomonref01_Add.c A2) (ai (gnomonref04_Mk.c A3) e))) (by kernel_rfl)
 ·obtain ⟨t3, A4, h⟩ := bnd h
  rcases ite_e h with ⟨c5, h⟩ | ⟨c5, h⟩
  ·obtain ⟨t4, A6, h⟩ := bnd h
   obtain ⟨bt5, A7, h⟩ := bnd h
   have h := si h; subst h
   exact pth Tryz.func31 [.br false, .r (.s (.i .i64 t3)), .br true, .r (.s (.sl .u32 t4)), .r (.ag [.b bt5.1, .sl .u32 bt5.2])] (fun e => ai (q0 c1) (ai (gnomonref01_Cmp.c A4) (ai (d1 c5) (ai (gnomonref01_Sub.c A6) (ai (gnomonref04_Mk.c A7) e))))) (by kernel_rfl)
  ·obtain ⟨t6, A8, h⟩ := bnd h
   obtain ⟨bt7, A9, h⟩ := bnd h
   have h := si h; subst h
   exact pth Tryz.func31 [.br false, .r (.s (.i .i64 t3)), .br false, .r (.s (.sl .u32 t6)), .r (.ag [.b bt7.1, .sl .u32 bt7.2])] (fun e => ai (q0 c1) (ai (gnomonref01_Cmp.c A4) (ai (d0 c5) (ai (gnomonref01_Sub.c A8) (ai (gnomonref04_Mk.c A9) e))))) (by kernel_rfl)
def gnomonref04_Mul.f (k : Nat) (a0_0 : Bool) (l0_1 : List Int) (a1_0 : Bool) (l1_1 : List Int) : Option (Bool × List Int) := (gnomonref01_Mul.f k l0_1 l1_1).bind fun t1 => ((gnomonref04_Mk.f k (a0_0 != a1_0) t1).bind fun bt2 => (some (bt2.1, bt2.2)))
theorem gnomonref04_Mul.mono : ∀ a0 a1 a2 a3 k, LeO (gnomonref04_Mul.f k a0 a1 a2 a3) (gnomonref04_Mul.f (k + 1) a0 a1 a2 a3) := by
 intro a0 a1 a2 a3 k
 unfold gnomonref04_Mul.f
 repeat' first
  | (with_reducible exact gnomonref01_Mul.mono _ _ _)
  | (with_reducible exact gnomonref04_Mk.mono _ _ _)
  | (with_reducible exact LeO.refl _)
  | (with_reducible exact LeO.none _)
  | (with_reducible refine LeO.ite ?_ ?_)
  | (with_reducible refine LeO.bind ?_ (fun _ => ?_))
theorem gnomonref04_Mul.c {k : Nat} {a0_0 : Bool} {l0_1 : List Int} {a1_0 : Bool} {l1_1 : List Int} {r : Bool × List Int} (h : gnomonref04_Mul.f k a0_0 l0_1 a1_0 l1_1 = some r) : Con Tryz.prog Gw 34 [.ag [.b a0_0, .sl .u32 l0_1], .ag [.b a1_0, .sl .u32 l1_1]] (· = .ag [.b r.1, .sl .u32 r.2]) := by
 unfold gnomonref04_Mul.f at h
 obtain ⟨t1, A1, h⟩ := bnd h
 obtain ⟨bt2, A2, h⟩ := bnd h
 have h := si h; subst h
 exact pth Tryz.func34 [.r (.s (.sl .u32 t1)), .r (.ag [.b bt2.1, .sl .u32 bt2.2])] (fun e => ai (gnomonref01_Mul.c A1) (ai (gnomonref04_Mk.c A2) e)) (by kernel_rfl)
def gnomonref04_Sub.f (k : Nat) (a0_0 : Bool) (l0_1 : List Int) (a1_0 : Bool) (l1_1 : List Int) : Option (Bool × List Int) := (gnomonref04_Flip.f k a1_0 l1_1).bind fun bt1 => ((gnomonref04_Add.f k a0_0 l0_1 bt1.1 bt1.2).bind fun bt2 => (some (bt2.1, bt2.2)))
theorem gnomonref04_Sub.mono : ∀ a0 a1 a2 a3 k, LeO (gnomonref04_Sub.f k a0 a1 a2 a3) (gnomonref04_Sub.f (k + 1) a0 a1 a2 a3) := by
 intro a0 a1 a2 a3 k
 unfold gnomonref04_Sub.f
 repeat' first
  | (with_reducible exact gnomonref04_Add.mono _ _ _ _ _)
  | (with_reducible exact gnomonref04_Flip.mono _ _ _)
  | (with_reducible exact LeO.refl _)
  | (with_reducible exact LeO.none _)
  | (with_reducible refine LeO.ite ?_ ?_)
  | (with_reducible refine LeO.bind ?_ (fun _ => ?_))
theorem gnomonref04_Sub.c {k : Nat} {a0_0 : Bool} {l0_1 : List Int} {a1_0 : Bool} {l1_1 : List Int} {r : Bool × List Int} (h : gnomonref04_Sub.f k a0_0 l0_1 a1_0 l1_1 = some r) : Con Tryz.prog Gw 39 [.ag [.b a0_0, .sl .u32 l0_1], .ag [.b a1_0, .sl .u32 l1_1]] (· = .ag [.b r.1, .sl .u32 r.2]) := by
 unfold gnomonref04_Sub.f at h
 obtain ⟨bt1, A1, h⟩ := bnd h
 obtain ⟨bt2, A2, h⟩ := bnd h
 have h := si h; subst h
 exact pth Tryz.func39 [.r (.ag [.b bt1.1, .sl .u32 bt1.2]), .r (.ag [.b bt2.1, .sl .u32 bt2.2])] (fun e => ai (gnomonref04_Flip.c A1) (ai (gnomonref04_Add.c A2) e)) (by kernel_rfl)
def gnomonref04_Cmp.f (k : Nat) (a0_0 : Bool) (l0_1 : List Int) (a1_0 : Bool) (l1_1 : List Int) : Option (Int) := (gnomonref04_Sub.f k a0_0 l0_1 a1_0 l1_1).bind fun bt1 => ((gnomonref04_Sign.f bt1.1 bt1.2).bind fun t2 => (some t2))
theorem gnomonref04_Cmp.mono : ∀ a0 a1 a2 a3 k, LeO (gnomonref04_Cmp.f k a0 a1 a2 a3) (gnomonref04_Cmp.f (k + 1) a0 a1 a2 a3) := by
 intro a0 a1 a2 a3 k
 unfold gnomonref04_Cmp.f
 repeat' first
  | (with_reducible exact gnomonref04_Sub.mono _ _ _ _ _)
  | (with_reducible exact LeO.refl _)
  | (with_reducible exact LeO.none _)
  | (with_reducible refine LeO.ite ?_ ?_)
  | (with_reducible refine LeO.bind ?_ (fun _ => ?_))
theorem gnomonref04_Cmp.c {k : Nat} {a0_0 : Bool} {l0_1 : List Int} {a1_0 : Bool} {l1_1 : List Int} {r : Int} (h : gnomonref04_Cmp.f k a0_0 l0_1 a1_0 l1_1 = some r) : Con Tryz.prog Gw 38 [.ag [.b a0_0, .sl .u32 l0_1], .ag [.b a1_0, .sl .u32 l1_1]] (· = .s (.i .i64 r)) := by
 unfold gnomonref04_Cmp.f at h
 obtain ⟨bt1, A1, h⟩ := bnd h
 obtain ⟨t2, A2, h⟩ := bnd h
 have h := si h; subst h
 exact pth Tryz.func38 [.r (.ag [.b bt1.1, .sl .u32 bt1.2]), .r (.s (.i .i64 t2))] (fun e => ai (gnomonref04_Sub.c A1) (ai (gnomonref04_Sign.c A2) e)) (by kernel_rfl)
def gnomonlaw09_nearest.f (k : Nat) (a0_0 : Int) (a0_1 : Int) (a0_2 : Int) (a0_3 : Int) (a0_4 : Int) (a0_5 : Int) (a1 : Int) (a2_0 : Bool) (l2_1 : List Int) (a3_0 : Bool) (l3_1 : List Int) : Option (Bool) := (gnomonref07_Cut.f a0_0 a0_1 a0_2 a0_3 a0_4 a0_5 a1).bind fun bt1 => (if bt1.2 > a0_4 then (some false) else (if bt1.1 = a2_0 then ((gnomonref04_Abs.f k a2_0 l2_1).bind fun bt2 => (if bt1.2 > 0 then ((gnomonref04_Shl.f k bt2.1 bt2.2 1).bind fun bt3 => ((gnomonlaw09_units.f k a0_0 a0_1 a0_2 a0_3 a0_4 a0_5 bt1.2).bind fun bt4 => ((gnomonlaw09_units.f k a0_0 a0_1 a0_2 a0_3 a0_4 a0_5 (IntKind.u64.wrap (bt1.2 - 1))).bind fun bt5 => ((gnomonref04_Add.f k bt4.1 bt4.2 bt5.1 bt5.2).bind fun bt6 => ((gnomonref04_Mul.f k a3_0 l3_1 bt6.1 bt6.2).bind fun bt7 => ((gnomonref04_Cmp.f k bt3.1 bt3.2 bt7.1 bt7.2).bind fun t8 => (if t8 < 0 then (some false) else (if t8 = 0 then (if (Int.tmod bt1.2 2) = 1 then (some false) else (if bt1.2 < a0_4 then ((gnomonref04_Shl.f k bt2.1 bt2.2 1).bind fun bt9 => ((gnomonlaw09_units.f k a0_0 a0_1 a0_2 a0_3 a0_4 a0_5 bt1.2).bind fun bt10 => ((gnomonlaw09_units.f k a0_0 a0_1 a0_2 a0_3 a0_4 a0_5 (IntKind.u64.wrap (bt1.2 + 1))).bind fun bt11 => ((gnomonref04_Add.f k bt10.1 bt10.2 bt11.1 bt11.2).bind fun bt12 => ((gnomonref04_Mul.f k a3_0 l3_1 bt12.1 bt12.2).bind fun bt13 => ((gnomonref04_Cmp.f k bt9.1 bt9.2 bt13.1 bt13.2).bind fun t14 => (if t14 > 0 then (some false) else (if t14 = 0 then (some true) else (some true))))))))) else (some true))) else (if bt1.2 < a0_4 then ((gnomonref04_Shl.f k bt2.1 bt2.2 1).bind fun bt15 => ((gnomonlaw09_units.f k a0_0 a0_1 a0_2 a0_3 a0_4 a0_5 bt1.2).bind fun bt16 => ((gnomonlaw09_units.f k a0_0 a0_1 a0_2 a0_3 a0_4 a0_5 (IntKind.u64.wrap (bt1.2 + 1))).bind fun bt17 => ((gnomonref04_Add.f k bt16.1 bt16.2 bt17.1 bt17.2).bind fun bt18 => ((gnomonref04_Mul.f k a3_0 l3_1 bt18.1 bt18.2).bind fun bt19 => ((gnomonref04_Cmp.f k bt15.1 bt15.2 bt19.1 bt19.2).bind fun t20 => (if t20 > 0 then (some false) else (if t20 = 0 then (if (Int.tmod bt1.2 2) = 1 then (some false) else (some true)) else (some true))))))))) else (some true)))))))))) else (if bt1.2 < a0_4 then ((gnomonref04_Shl.f k bt2.1 bt2.2 1).bind fun bt21 => ((gnomonlaw09_units.f k a0_0 a0_1 a0_2 a0_3 a0_4 a0_5 bt1.2).bind fun bt22 => ((gnomonlaw09_units.f k a0_0 a0_1 a0_2 a0_3 a0_4 a0_5 (IntKind.u64.wrap (bt1.2 + 1))).bind fun bt23 => ((gnomonref04_Add.f k bt22.1 bt22.2 bt23.1 bt23.2).bind fun bt24 => ((gnomonref04_Mul.f k a3_0 l3_1 bt24.1 bt24.2).bind fun bt25 => ((gnomonref04_Cmp.f k bt21.1 bt21.2 bt25.1 bt25.2).bind fun t26 => (if t26 > 0 then (some false) else (if t26 = 0 then (if (Int.tmod bt1.2 2) = 1 then (some false) else (some true)) else (some true))))))))) else (some true)))) else (some false)))
theorem gnomonlaw09_nearest.mono : ∀ a0 a1 a2 a3 a4 a5 a6 a7 a8 a9 a10 k, LeO (gnomonlaw09_nearest.f k a0 a1 a2 a3 a4 a5 a6 a7 a8 a9 a10) (gnomonlaw09_nearest.f (k + 1) a0 a1 a2 a3 a4 a5 a6 a7 a8 a9 a10) := by
 intro a0 a1 a2 a3 a4 a5 a6 a7 a8 a9 a10 k
 unfold gnomonlaw09_nearest.f
 repeat' first
  | (with_reducible exact gnomonlaw09_units.mono _ _ _ _ _ _ _ _)
  | (with_reducible exact gnomonref04_Abs.mono _ _ _)
  | (with_reducible exact gnomonref04_Add.mono _ _ _ _ _)
  | (with_reducible exact gnomonref04_Cmp.mono _ _ _ _ _)
  | (with_reducible exact gnomonref04_Mul.mono _ _ _ _ _)
  | (with_reducible exact gnomonref04_Shl.mono _ _ _ _)
  | (with_reducible exact LeO.refl _)
  | (with_reducible exact LeO.none _)
  | (with_reducible refine LeO.ite ?_ ?_)
  | (with_reducible refine LeO.bind ?_ (fun _ => ?_))
theorem gnomonlaw09_nearest.c {k : Nat} {a0_0 : Int} {a0_1 : Int} {a0_2 : Int} {a0_3 : Int} {a0_4 : Int} {a0_5 : Int} {a1 : Int} {a2_0 : Bool} {l2_1 : List Int} {a3_0 : Bool} {l3_1 : List Int} {r : Bool} (h : gnomonlaw09_nearest.f k a0_0 a0_1 a0_2 a0_3 a0_4 a0_5 a1 a2_0 l2_1 a3_0 l3_1 = some r) : Con Tryz.prog Gw 33 [.ag [.i .u64 a0_0, .i .i64 a0_1, .i .i64 a0_2, .i .i64 a0_3, .i .u64 a0_4, .i .u64 a0_5], .s (.i .u64 a1), .ag [.b a2_0, .sl .u32 l2_1], .ag [.b a3_0, .sl .u32 l3_1]] (· = .s (.b r)) := by
 unfold gnomonlaw09_nearest.f at h
 obtain ⟨bt1, A1, h⟩ := bnd h
 rcases ite_e h with ⟨c2, h⟩ | ⟨c2, h⟩
 ·have h := si h; subst h
  exact pth Tryz.func33 [.r (.tu [.s (.b bt1.1), .s (.i .u64 bt1.2)]), .br true, .br true, .br true, .br true, .br true, .br true] (fun e => ai (gnomonref07_Cut.c A1) (ai (d1 c2) (ai (d1 c2) (ai (d1 c2) (ai (d1 c2) (ai (d1 c2) (ai tt e))))))) (by kernel_rfl)
 ·rcases ite_e h with ⟨c3, h⟩ | ⟨c3, h⟩
  ·obtain ⟨bt2, A4, h⟩ := bnd h
   rcases ite_e h with ⟨c5, h⟩ | ⟨c5, h⟩
   ·obtain ⟨bt3, A6, h⟩ := bnd h
    obtain ⟨bt4, A7, h⟩ := bnd h
    obtain ⟨bt5, A8, h⟩ := bnd h
    obtain ⟨bt6, A9, h⟩ := bnd h
    obtain ⟨bt7, A10, h⟩ := bnd h
    obtain ⟨t8, A11, h⟩ := bnd h
    rcases ite_e h with ⟨c12, h⟩ | ⟨c12, h⟩
    ·have h := si h; subst h
     exact pth Tryz.func33 [.r (.tu [.s (.b bt1.1), .s (.i .u64 bt1.2)]), .br false, .br false, .br false, .br false, .br false, .br false, .r (.ag [.b bt2.1, .sl .u32 bt2.2]), .br true, .r (.ag [.b bt3.1, .sl .u32 bt3.2]), .r (.ag [.b bt4.1, .sl .u32 bt4.2]), .r (.ag [.b bt5.1, .sl .u32 bt5.2]), .r (.ag [.b bt6.1, .sl .u32 bt6.2]), .r (.ag [.b bt7.1, .sl .u32 bt7.2]), .r (.s (.i .i64 t8)), .br true, .br true, .br true, .br true, .br true, .br true] (fun e => ai (gnomonref07_Cut.c A1) (ai (d0 c2) (ai (d0 c2) (ai (d0 c2) (ai (d0 c2) (ai (d0 c2) (ai (n0 c3) (ai (gnomonref04_Abs.c A4) (ai (d1 c5) (ai (gnomonref04_Shl.c A6) (ai (gnomonlaw09_units.c A7) (ai (gnomonlaw09_units.c A8) (ai (gnomonref04_Add.c A9) (ai (gnomonref04_Mul.c A10) (ai (gnomonref04_Cmp.c A11) (ai (d1 c12) (ai (d1 c12) (ai (d1 c12) (ai (d1 c12) (ai (d1 c12) (ai tt e))))))))))))))))))))) (by kernel_rfl)
    ·rcases ite_e h with ⟨c13, h⟩ | ⟨c13, h⟩
     ·rcases ite_e h with ⟨c14, h⟩ | ⟨c14, h⟩
      ·have h := si h; subst h
       exact pth Tryz.func33 [.r (.tu [.s (.b bt1.1), .s (.i .u64 bt1.2)]), .br false, .br false, .br false, .br false, .br false, .br false, .r (.ag [.b bt2.1, .sl .u32 bt2.2]), .br true, .r (.ag [.b bt3.1, .sl .u32 bt3.2]), .r (.ag [.b bt4.1, .sl .u32 bt4.2]), .r (.ag [.b bt5.1, .sl .u32 bt5.2]), .r (.ag [.b bt6.1, .sl .u32 bt6.2]), .r (.ag [.b bt7.1, .sl .u32 bt7.2]), .r (.s (.i .i64 t8)), .br false, .br false, .br false, .br true, .br true, .br true, .br false, .br true, .br false, .br true] (fun e => ai (gnomonref07_Cut.c A1) (ai (d0 c2) (ai (d0 c2) (ai (d0 c2) (ai (d0 c2) (ai (d0 c2) (ai (n0 c3) (ai (gnomonref04_Abs.c A4) (ai (d1 c5) (ai (gnomonref04_Shl.c A6) (ai (gnomonlaw09_units.c A7) (ai (gnomonlaw09_units.c A8) (ai (gnomonref04_Add.c A9) (ai (gnomonref04_Mul.c A10) (ai (gnomonref04_Cmp.c A11) (ai (d0 c12) (ai (d0 c12) (ai (d0 c12) (ai (q1 c13) (ai (q1 c13) (ai (by decide : (2 : Int) ≠ 0) (ai (q1 c13) (ai (d0 c12) (ai (q1 c13) (ai (d0 c12) (ai (q1 c14) e)))))))))))))))))))))))))) (by kernel_rfl)
      ·rcases ite_e h with ⟨c15, h⟩ | ⟨c15, h⟩
       ·obtain ⟨bt9, A16, h⟩ := bnd h
        obtain ⟨bt10, A17, h⟩ := bnd h
        obtain ⟨bt11, A18, h⟩ := bnd h
        obtain ⟨bt12, A19, h⟩ := bnd h
        obtain ⟨bt13, A20, h⟩ := bnd h
        obtain ⟨t14, A21, h⟩ := bnd h
        rcases ite_e h with ⟨c22, h⟩ | ⟨c22, h⟩
        ·have h := si h; subst h
         exact pth Tryz.func33 [.r (.tu [.s (.b bt1.1), .s (.i .u64 bt1.2)]), .br false, .br false, .br false, .br false, .br false, .br false, .r (.ag [.b bt2.1, .sl .u32 bt2.2]), .br true, .r (.ag [.b bt3.1, .sl .u32 bt3.2]), .r (.ag [.b bt4.1, .sl .u32 bt4.2]), .r (.ag [.b bt5.1, .sl .u32 bt5.2]), .r (.ag [.b bt6.1, .sl .u32 bt6.2]), .r (.ag [.b bt7.1, .sl .u32 bt7.2]), .r (.s (.i .i64 t8)), .br false, .br false, .br false, .br true, .br true, .br true, .br false, .br true, .br false, .br false, .br true, .r (.ag [.b bt9.1, .sl .u32 bt9.2]), .r (.ag [.b bt10.1, .sl .u32 bt10.2]), .r (.ag [.b bt11.1, .sl .u32 bt11.2]), .r (.ag [.b bt12.1, .sl .u32 bt12.2]), .r (.ag [.b bt13.1, .sl .u32 bt13.2]), .r (.s (.i .i64 t14)), .br true, .br true, .br true, .br true, .br true, .br true] (fun e => ai (gnomonref07_Cut.c A1) (ai (d0 c2) (ai (d0 c2) (ai (d0 c2) (ai (d0 c2) (ai (d0 c2) (ai (n0 c3) (ai (gnomonref04_Abs.c A4) (ai (d1 c5) (ai (gnomonref04_Shl.c A6) (ai (gnomonlaw09_units.c A7) (ai (gnomonlaw09_units.c A8) (ai (gnomonref04_Add.c A9) (ai (gnomonref04_Mul.c A10) (ai (gnomonref04_Cmp.c A11) (ai (d0 c12) (ai (d0 c12) (ai (d0 c12) (ai (q1 c13) (ai (q1 c13) (ai (by decide : (2 : Int) ≠ 0) (ai (q1 c13) (ai (d0 c12) (ai (q1 c13) (ai (d0 c12) (ai (q0 c14) (ai (d1 c15) (ai (gnomonref04_Shl.c A16) (ai (gnomonlaw09_units.c A17) (ai (gnomonlaw09_units.c A18) (ai (gnomonref04_Add.c A19) (ai (gnomonref04_Mul.c A20) (ai (gnomonref04_Cmp.c A21) (ai (d1 c22) (ai (d1 c22) (ai (d1 c22) (ai (d1 c22) (ai (d1 c22) (ai tt e))))))))))))))))))))))))))))))))))))))) (by kernel_rfl)
        ·rcases ite_e h with ⟨c23, h⟩ | ⟨c23, h⟩
         ·have h := si h; subst h
          exact pth Tryz.func33 [.r (.tu [.s (.b bt1.1), .s (.i .u64 bt1.2)]), .br false, .br false, .br false, .br false, .br false, .br false, .r (.ag [.b bt2.1, .sl .u32 bt2.2]), .br true, .r (.ag [.b bt3.1, .sl .u32 bt3.2]), .r (.ag [.b bt4.1, .sl .u32 bt4.2]), .r (.ag [.b bt5.1, .sl .u32 bt5.2]), .r (.ag [.b bt6.1, .sl .u32 bt6.2]), .r (.ag [.b bt7.1, .sl .u32 bt7.2]), .r (.s (.i .i64 t8)), .br false, .br false, .br false, .br true, .br true, .br true, .br false, .br true, .br false, .br false, .br true, .r (.ag [.b bt9.1, .sl .u32 bt9.2]), .r (.ag [.b bt10.1, .sl .u32 bt10.2]), .r (.ag [.b bt11.1, .sl .u32 bt11.2]), .r (.ag [.b bt12.1, .sl .u32 bt12.2]), .r (.ag [.b bt13.1, .sl .u32 bt13.2]), .r (.s (.i .i64 t14)), .br false, .br false, .br false, .br true, .br true, .br true, .br false, .br true, .br false, .br false] (fun e => ai (gnomonref07_Cut.c A1) (ai (d0 c2) (ai (d0 c2) (ai (d0 c2) (ai (d0 c2) (ai (d0 c2) (ai (n0 c3) (ai (gnomonref04_Abs.c A4) (ai (d1 c5) (ai (gnomonref04_Shl.c A6) (ai (gnomonlaw09_units.c A7) (ai (gnomonlaw09_units.c A8) (ai (gnomonref04_Add.c A9) (ai (gnomonref04_Mul.c A10) (ai (gnomonref04_Cmp.c A11) (ai (d0 c12) (ai (d0 c12) (ai (d0 c12) (ai (q1 c13) (ai (q1 c13) (ai (by decide : (2 : Int) ≠ 0) (ai (q1 c13) (ai (d0 c12) (ai (q1 c13) (ai (d0 c12) (ai (q0 c14) (ai (d1 c15) (ai (gnomonref04_Shl.c A16) (ai (gnomonlaw09_units.c A17) (ai (gnomonlaw09_units.c A18) (ai (gnomonref04_Add.c A19) (ai (gnomonref04_Mul.c A20) (ai (gnomonref04_Cmp.c A21) (ai (d0 c22) (ai (d0 c22) (ai (d0 c22) (ai (q1 c23) (ai (q1 c23) (ai (by decide : (2 : Int) ≠ 0) (ai (q1 c23) (ai (d0 c22) (ai (q1 c23) (ai (d0 c22) (ai (q0 c14) e)))))))))))))))))))))))))))))))))))))))))))) (by kernel_rfl)
         ·have h := si h; subst h
          exact pth Tryz.func33 [.r (.tu [.s (.b bt1.1), .s (.i .u64 bt1.2)]), .br false, .br false, .br false, .br false, .br false, .br false, .r (.ag [.b bt2.1, .sl .u32 bt2.2]), .br true, .r (.ag [.b bt3.1, .sl .u32 bt3.2]), .r (.ag [.b bt4.1, .sl .u32 bt4.2]), .r (.ag [.b bt5.1, .sl .u32 bt5.2]), .r (.ag [.b bt6.1, .sl .u32 bt6.2]), .r (.ag [.b bt7.1, .sl .u32 bt7.2]), .r (.s (.i .i64 t8)), .br false, .br false, .br false, .br true, .br true, .br true, .br false, .br true, .br false, .br false, .br true, .r (.ag [.b bt9.1, .sl .u32 bt9.2]), .r (.ag [.b bt10.1, .sl .u32 bt10.2]), .r (.ag [.b bt11.1, .sl .u32 bt11.2]), .r (.ag [.b bt12.1, .sl .u32 bt12.2]), .r (.ag [.b bt13.1, .sl .u32 bt13.2]), .r (.s (.i .i64 t14)), .br false, .br false, .br false, .br false, .br false, .br false, .br false, .br false, .br false, .br false] (fun e => ai (gnomonref07_Cut.c A1) (ai (d0 c2) (ai (d0 c2) (ai (d0 c2) (ai (d0 c2) (ai (d0 c2) (ai (n0 c3) (ai (gnomonref04_Abs.c A4) (ai (d1 c5) (ai (gnomonref04_Shl.c A6) (ai (gnomonlaw09_units.c A7) (ai (gnomonlaw09_units.c A8) (ai (gnomonref04_Add.c A9) (ai (gnomonref04_Mul.c A10) (ai (gnomonref04_Cmp.c A11) (ai (d0 c12) (ai (d0 c12) (ai (d0 c12) (ai (q1 c13) (ai (q1 c13) (ai (by decide : (2 : Int) ≠ 0) (ai (q1 c13) (ai (d0 c12) (ai (q1 c13) (ai (d0 c12) (ai (q0 c14) (ai (d1 c15) (ai (gnomonref04_Shl.c A16) (ai (gnomonlaw09_units.c A17) (ai (gnomonlaw09_units.c A18) (ai (gnomonref04_Add.c A19) (ai (gnomonref04_Mul.c A20) (ai (gnomonref04_Cmp.c A21) (ai (d0 c22) (ai (d0 c22) (ai (d0 c22) (ai (q0 c23) (ai (q0 c23) (ai (q0 c23) (ai (d0 c22) (ai (q0 c23) (ai (d0 c22) (ai ff e))))))))))))))))))))))))))))))))))))))))))) (by kernel_rfl)
       ·have h := si h; subst h
        exact pth Tryz.func33 [.r (.tu [.s (.b bt1.1), .s (.i .u64 bt1.2)]), .br false, .br false, .br false, .br false, .br false, .br false, .r (.ag [.b bt2.1, .sl .u32 bt2.2]), .br true, .r (.ag [.b bt3.1, .sl .u32 bt3.2]), .r (.ag [.b bt4.1, .sl .u32 bt4.2]), .r (.ag [.b bt5.1, .sl .u32 bt5.2]), .r (.ag [.b bt6.1, .sl .u32 bt6.2]), .r (.ag [.b bt7.1, .sl .u32 bt7.2]), .r (.s (.i .i64 t8)), .br false, .br false, .br false, .br true, .br true, .br true, .br false, .br true, .br false, .br false, .br false] (fun e => ai (gnomonref07_Cut.c A1) (ai (d0 c2) (ai (d0 c2) (ai (d0 c2) (ai (d0 c2) (ai (d0 c2) (ai (n0 c3) (ai (gnomonref04_Abs.c A4) (ai (d1 c5) (ai (gnomonref04_Shl.c A6) (ai (gnomonlaw09_units.c A7) (ai (gnomonlaw09_units.c A8) (ai (gnomonref04_Add.c A9) (ai (gnomonref04_Mul.c A10) (ai (gnomonref04_Cmp.c A11) (ai (d0 c12) (ai (d0 c12) (ai (d0 c12) (ai (q1 c13) (ai (q1 c13) (ai (by decide : (2 : Int) ≠ 0) (ai (q1 c13) (ai (d0 c12) (ai (q1 c13) (ai (d0 c12) (ai (q0 c14) (ai (d0 c15) e))))))))))))))))))))))))))) (by kernel_rfl)
     ·rcases ite_e h with ⟨c24, h⟩ | ⟨c24, h⟩
      ·obtain ⟨bt15, A25, h⟩ := bnd h
       obtain ⟨bt16, A26, h⟩ := bnd h
       obtain ⟨bt17, A27, h⟩ := bnd h
       obtain ⟨bt18, A28, h⟩ := bnd h
       obtain ⟨bt19, A29, h⟩ := bnd h
       obtain ⟨t20, A30, h⟩ := bnd h
       rcases ite_e h with ⟨c31, h⟩ | ⟨c31, h⟩
       ·have h := si h; subst h
        exact pth Tryz.func33 [.r (.tu [.s (.b bt1.1), .s (.i .u64 bt1.2)]), .br false, .br false, .br false, .br false, .br false, .br false, .r (.ag [.b bt2.1, .sl .u32 bt2.2]), .br true, .r (.ag [.b bt3.1, .sl .u32 bt3.2]), .r (.ag [.b bt4.1, .sl .u32 bt4.2]), .r (.ag [.b bt5.1, .sl .u32 bt5.2]), .r (.ag [.b bt6.1, .sl .u32 bt6.2]), .r (.ag [.b bt7.1, .sl .u32 bt7.2]), .r (.s (.i .i64 t8)), .br false, .br false, .br false, .br false, .br false, .br false, .br false, .br false, .br false, .br false, .br true, .r (.ag [.b bt15.1, .sl .u32 bt15.2]), .r (.ag [.b bt16.1, .sl .u32 bt16.2]), .r (.ag [.b bt17.1, .sl .u32 bt17.2]), .r (.ag [.b bt18.1, .sl .u32 bt18.2]), .r (.ag [.b bt19.1, .sl .u32 bt19.2]), .r (.s (.i .i64 t20)), .br true, .br true, .br true, .br true, .br true, .br true] (fun e => ai (gnomonref07_Cut.c A1) (ai (d0 c2) (ai (d0 c2) (ai (d0 c2) (ai (d0 c2) (ai (d0 c2) (ai (n0 c3) (ai (gnomonref04_Abs.c A4) (ai (d1 c5) (ai (gnomonref04_Shl.c A6) (ai (gnomonlaw09_units.c A7) (ai (gnomonlaw09_units.c A8) (ai (gnomonref04_Add.c A9) (ai (gnomonref04_Mul.c A10) (ai (gnomonref04_Cmp.c A11) (ai (d0 c12) (ai (d0 c12) (ai (d0 c12) (ai (q0 c13) (ai (q0 c13) (ai (q0 c13) (ai (d0 c12) (ai (q0 c13) (ai (d0 c12) (ai ff (ai (d1 c24) (ai (gnomonref04_Shl.c A25) (ai (gnomonlaw09_units.c A26) (ai (gnomonlaw09_units.c A27) (ai (gnomonref04_Add.c A28) (ai (gnomonref04_Mul.c A29) (ai (gnomonref04_Cmp.c A30) (ai (d1 c31) (ai (d1 c31) (ai (d1 c31) (ai (d1 c31) (ai (d1 c31) (ai tt e)))))))))))))))))))))))))))))))))))))) (by kernel_rfl)
       ·rcases ite_e h with ⟨c32, h⟩ | ⟨c32, h⟩
        ·rcases ite_e h with ⟨c33, h⟩ | ⟨c33, h⟩
         ·have h := si h; subst h
          exact pth Tryz.func33 [.r (.tu [.s (.b bt1.1), .s (.i .u64 bt1.2)]), .br false, .br false, .br false, .br false, .br false, .br false, .r (.ag [.b bt2.1, .sl .u32 bt2.2]), .br true, .r (.ag [.b bt3.1, .sl .u32 bt3.2]), .r (.ag [.b bt4.1, .sl .u32 bt4.2]), .r (.ag [.b bt5.1, .sl .u32 bt5.2]), .r (.ag [.b bt6.1, .sl .u32 bt6.2]), .r (.ag [.b bt7.1, .sl .u32 bt7.2]), .r (.s (.i .i64 t8)), .br false, .br false, .br false, .br false, .br false, .br false, .br false, .br false, .br false, .br false, .br true, .r (.ag [.b bt15.1, .sl .u32 bt15.2]), .r (.ag [.b bt16.1, .sl .u32 bt16.2]), .r (.ag [.b bt17.1, .sl .u32 bt17.2]), .r (.ag [.b bt18.1, .sl .u32 bt18.2]), .r (.ag [.b bt19.1, .sl .u32 bt19.2]), .r (.s (.i .i64 t20)), .br false, .br false, .br false, .br true, .br true, .br true, .br false, .br true, .br false, .br true] (fun e => ai (gnomonref07_Cut.c A1) (ai (d0 c2) (ai (d0 c2) (ai (d0 c2) (ai (d0 c2) (ai (d0 c2) (ai (n0 c3) (ai (gnomonref04_Abs.c A4) (ai (d1 c5) (ai (gnomonref04_Shl.c A6) (ai (gnomonlaw09_units.c A7) (ai (gnomonlaw09_units.c A8) (ai (gnomonref04_Add.c A9) (ai (gnomonref04_Mul.c A10) (ai (gnomonref04_Cmp.c A11) (ai (d0 c12) (ai (d0 c12) (ai (d0 c12) (ai (q0 c13) (ai (q0 c13) (ai (q0 c13) (ai (d0 c12) (ai (q0 c13) (ai (d0 c12) (ai ff (ai (d1 c24) (ai (gnomonref04_Shl.c A25) (ai (gnomonlaw09_units.c A26) (ai (gnomonlaw09_units.c A27) (ai (gnomonref04_Add.c A28) (ai (gnomonref04_Mul.c A29) (ai (gnomonref04_Cmp.c A30) (ai (d0 c31) (ai (d0 c31) (ai (d0 c31) (ai (q1 c32) (ai (q1 c32) (ai (by decide : (2 : Int) ≠ 0) (ai (q1 c32) (ai (d0 c31) (ai (q1 c32) (ai (d0 c31) (ai (q1 c33) e))))))))))))))))))))))))))))))))))))))))))) (by kernel_rfl)
         ·have h := si h; subst h
          exact pth Tryz.func33 [.r (.tu [.s (.b bt1.1), .s (.i .u64 bt1.2)]), .br false, .br false, .br false, .br false, .br false, .br false, .r (.ag [.b bt2.1, .sl .u32 bt2.2]), .br true, .r (.ag [.b bt3.1, .sl .u32 bt3.2]), .r (.ag [.b bt4.1, .sl .u32 bt4.2]), .r (.ag [.b bt5.1, .sl .u32 bt5.2]), .r (.ag [.b bt6.1, .sl .u32 bt6.2]), .r (.ag [.b bt7.1, .sl .u32 bt7.2]), .r (.s (.i .i64 t8)), .br false, .br false, .br false, .br false, .br false, .br false, .br false, .br false, .br false, .br false, .br true, .r (.ag [.b bt15.1, .sl .u32 bt15.2]), .r (.ag [.b bt16.1, .sl .u32 bt16.2]), .r (.ag [.b bt17.1, .sl .u32 bt17.2]), .r (.ag [.b bt18.1, .sl .u32 bt18.2]), .r (.ag [.b bt19.1, .sl .u32 bt19.2]), .r (.s (.i .i64 t20)), .br false, .br false, .br false, .br true, .br true, .br true, .br false, .br true, .br false, .br false] (fun e => ai (gnomonref07_Cut.c A1) (ai (d0 c2) (ai (d0 c2) (ai (d0 c2) (ai (d0 c2) (ai (d0 c2) (ai (n0 c3) (ai (gnomonref04_Abs.c A4) (ai (d1 c5) (ai (gnomonref04_Shl.c A6) (ai (gnomonlaw09_units.c A7) (ai (gnomonlaw09_units.c A8) (ai (gnomonref04_Add.c A9) (ai (gnomonref04_Mul.c A10) (ai (gnomonref04_Cmp.c A11) (ai (d0 c12) (ai (d0 c12) (ai (d0 c12) (ai (q0 c13) (ai (q0 c13) (ai (q0 c13) (ai (d0 c12) (ai (q0 c13) (ai (d0 c12) (ai ff (ai (d1 c24) (ai (gnomonref04_Shl.c A25) (ai (gnomonlaw09_units.c A26) (ai (gnomonlaw09_units.c A27) (ai (gnomonref04_Add.c A28) (ai (gnomonref04_Mul.c A29) (ai (gnomonref04_Cmp.c A30) (ai (d0 c31) (ai (d0 c31) (ai (d0 c31) (ai (q1 c32) (ai (q1 c32) (ai (by decide : (2 : Int) ≠ 0) (ai (q1 c32) (ai (d0 c31) (ai (q1 c32) (ai (d0 c31) (ai (q0 c33) e))))))))))))))))))))))))))))))))))))))))))) (by kernel_rfl)
        ·have h := si h; subst h
         exact pth Tryz.func33 [.r (.tu [.s (.b bt1.1), .s (.i .u64 bt1.2)]), .br false, .br false, .br false, .br false, .br false, .br false, .r (.ag [.b bt2.1, .sl .u32 bt2.2]), .br true, .r (.ag [.b bt3.1, .sl .u32 bt3.2]), .r (.ag [.b bt4.1, .sl .u32 bt4.2]), .r (.ag [.b bt5.1, .sl .u32 bt5.2]), .r (.ag [.b bt6.1, .sl .u32 bt6.2]), .r (.ag [.b bt7.1, .sl .u32 bt7.2]), .r (.s (.i .i64 t8)), .br false, .br false, .br false, .br false, .br false, .br false, .br false, .br false, .br false, .br false, .br true, .r (.ag [.b bt15.1, .sl .u32 bt15.2]), .r (.ag [.b bt16.1, .sl .u32 bt16.2]), .r (.ag [.b bt17.1, .sl .u32 bt17.2]), .r (.ag [.b bt18.1, .sl .u32 bt18.2]), .r (.ag [.b bt19.1, .sl .u32 bt19.2]), .r (.s (.i .i64 t20)), .br false, .br false, .br false, .br false, .br false, .br false, .br false, .br false, .br false, .br false] (fun e => ai (gnomonref07_Cut.c A1) (ai (d0 c2) (ai (d0 c2) (ai (d0 c2) (ai (d0 c2) (ai (d0 c2) (ai (n0 c3) (ai (gnomonref04_Abs.c A4) (ai (d1 c5) (ai (gnomonref04_Shl.c A6) (ai (gnomonlaw09_units.c A7) (ai (gnomonlaw09_units.c A8) (ai (gnomonref04_Add.c A9) (ai (gnomonref04_Mul.c A10) (ai (gnomonref04_Cmp.c A11) (ai (d0 c12) (ai (d0 c12) (ai (d0 c12) (ai (q0 c13) (ai (q0 c13) (ai (q0 c13) (ai (d0 c12) (ai (q0 c13) (ai (d0 c12) (ai ff (ai (d1 c24) (ai (gnomonref04_Shl.c A25) (ai (gnomonlaw09_units.c A26) (ai (gnomonlaw09_units.c A27) (ai (gnomonref04_Add.c A28) (ai (gnomonref04_Mul.c A29) (ai (gnomonref04_Cmp.c A30) (ai (d0 c31) (ai (d0 c31) (ai (d0 c31) (ai (q0 c32) (ai (q0 c32) (ai (q0 c32) (ai (d0 c31) (ai (q0 c32) (ai (d0 c31) (ai ff e)))))))))))))))))))))))))))))))))))))))))) (by kernel_rfl)
      ·have h := si h; subst h
       exact pth Tryz.func33 [.r (.tu [.s (.b bt1.1), .s (.i .u64 bt1.2)]), .br false, .br false, .br false, .br false, .br false, .br false, .r (.ag [.b bt2.1, .sl .u32 bt2.2]), .br true, .r (.ag [.b bt3.1, .sl .u32 bt3.2]), .r (.ag [.b bt4.1, .sl .u32 bt4.2]), .r (.ag [.b bt5.1, .sl .u32 bt5.2]), .r (.ag [.b bt6.1, .sl .u32 bt6.2]), .r (.ag [.b bt7.1, .sl .u32 bt7.2]), .r (.s (.i .i64 t8)), .br false, .br false, .br false, .br false, .br false, .br false, .br false, .br false, .br false, .br false, .br false] (fun e => ai (gnomonref07_Cut.c A1) (ai (d0 c2) (ai (d0 c2) (ai (d0 c2) (ai (d0 c2) (ai (d0 c2) (ai (n0 c3) (ai (gnomonref04_Abs.c A4) (ai (d1 c5) (ai (gnomonref04_Shl.c A6) (ai (gnomonlaw09_units.c A7) (ai (gnomonlaw09_units.c A8) (ai (gnomonref04_Add.c A9) (ai (gnomonref04_Mul.c A10) (ai (gnomonref04_Cmp.c A11) (ai (d0 c12) (ai (d0 c12) (ai (d0 c12) (ai (q0 c13) (ai (q0 c13) (ai (q0 c13) (ai (d0 c12) (ai (q0 c13) (ai (d0 c12) (ai ff (ai (d0 c24) e)))))))))))))))))))))))))) (by kernel_rfl)
   ·rcases ite_e h with ⟨c34, h⟩ | ⟨c34, h⟩
    ·obtain ⟨bt21, A35, h⟩ := bnd h
     obtain ⟨bt22, A36, h⟩ := bnd h
     obtain ⟨bt23, A37, h⟩ := bnd h
     obtain ⟨bt24, A38, h⟩ := bnd h
     obtain ⟨bt25, A39, h⟩ := bnd h
     obtain ⟨t26, A40, h⟩ := bnd h
     rcases ite_e h with ⟨c41, h⟩ | ⟨c41, h⟩
     ·have h := si h; subst h
      exact pth Tryz.func33 [.r (.tu [.s (.b bt1.1), .s (.i .u64 bt1.2)]), .br false, .br false, .br false, .br false, .br false, .br false, .r (.ag [.b bt2.1, .sl .u32 bt2.2]), .br false, .br true, .r (.ag [.b bt21.1, .sl .u32 bt21.2]), .r (.ag [.b bt22.1, .sl .u32 bt22.2]), .r (.ag [.b bt23.1, .sl .u32 bt23.2]), .r (.ag [.b bt24.1, .sl .u32 bt24.2]), .r (.ag [.b bt25.1, .sl .u32 bt25.2]), .r (.s (.i .i64 t26)), .br true, .br true, .br true, .br true, .br true, .br true] (fun e => ai (gnomonref07_Cut.c A1) (ai (d0 c2) (ai (d0 c2) (ai (d0 c2) (ai (d0 c2) (ai (d0 c2) (ai (n0 c3) (ai (gnomonref04_Abs.c A4) (ai (d0 c5) (ai (d1 c34) (ai (gnomonref04_Shl.c A35) (ai (gnomonlaw09_units.c A36) (ai (gnomonlaw09_units.c A37) (ai (gnomonref04_Add.c A38) (ai (gnomonref04_Mul.c A39) (ai (gnomonref04_Cmp.c A40) (ai (d1 c41) (ai (d1 c41) (ai (d1 c41) (ai (d1 c41) (ai (d1 c41) (ai tt e)))))))))))))))))))))) (by kernel_rfl)
     ·rcases ite_e h with ⟨c42, h⟩ | ⟨c42, h⟩
      ·rcases ite_e h with ⟨c43, h⟩ | ⟨c43, h⟩
       ·have h := si h; subst h
        exact pth Tryz.func33 [.r (.tu [.s (.b bt1.1), .s (.i .u64 bt1.2)]), .br false, .br false, .br false, .br false, .br false, .br false, .r (.ag [.b bt2.1, .sl .u32 bt2.2]), .br false, .br true, .r (.ag [.b bt21.1, .sl .u32 bt21.2]), .r (.ag [.b bt22.1, .sl .u32 bt22.2]), .r (.ag [.b bt23.1, .sl .u32 bt23.2]), .r (.ag [.b bt24.1, .sl .u32 bt24.2]), .r (.ag [.b bt25.1, .sl .u32 bt25.2]), .r (.s (.i .i64 t26)), .br false, .br false, .br false, .br true, .br true, .br true, .br false, .br true, .br false, .br true] (fun e => ai (gnomonref07_Cut.c A1) (ai (d0 c2) (ai (d0 c2) (ai (d0 c2) (ai (d0 c2) (ai (d0 c2) (ai (n0 c3) (ai (gnomonref04_Abs.c A4) (ai (d0 c5) (ai (d1 c34) (ai (gnomonref04_Shl.c A35) (ai (gnomonlaw09_units.c A36) (ai (gnomonlaw09_units.c A37) (ai (gnomonref04_Add.c A38) (ai (gnomonref04_Mul.c A39) (ai (gnomonref04_Cmp.c A40) (ai (d0 c41) (ai (d0 c41) (ai (d0 c41) (ai (q1 c42) (ai (q1 c42) (ai (by decide : (2 : Int) ≠ 0) (ai (q1 c42) (ai (d0 c41) (ai (q1 c42) (ai (d0 c41) (ai (q1 c43) e))))))))))))))))))))))))))) (by kernel_rfl)
       ·have h := si h; subst h
        exact pth Tryz.func33 [.r (.tu [.s (.b bt1.1), .s (.i .u64 bt1.2)]), .br false, .br false, .br false, .br false, .br false, .br false, .r (.ag [.b bt2.1, .sl .u32 bt2.2]), .br false, .br true, .r (.ag [.b bt21.1, .sl .u32 bt21.2]), .r (.ag [.b bt22.1, .sl .u32 bt22.2]), .r (.ag [.b bt23.1, .sl .u32 bt23.2]), .r (.ag [.b bt24.1, .sl .u32 bt24.2]), .r (.ag [.b bt25.1, .sl .u32 bt25.2]), .r (.s (.i .i64 t26)), .br false, .br false, .br false, .br true, .br true, .br true, .br false, .br true, .br false, .br false] (fun e => ai (gnomonref07_Cut.c A1) (ai (d0 c2) (ai (d0 c2) (ai (d0 c2) (ai (d0 c2) (ai (d0 c2) (ai (n0 c3) (ai (gnomonref04_Abs.c A4) (ai (d0 c5) (ai (d1 c34) (ai (gnomonref04_Shl.c A35) (ai (gnomonlaw09_units.c A36) (ai (gnomonlaw09_units.c A37) (ai (gnomonref04_Add.c A38) (ai (gnomonref04_Mul.c A39) (ai (gnomonref04_Cmp.c A40) (ai (d0 c41) (ai (d0 c41) (ai (d0 c41) (ai (q1 c42) (ai (q1 c42) (ai (by decide : (2 : Int) ≠ 0) (ai (q1 c42) (ai (d0 c41) (ai (q1 c42) (ai (d0 c41) (ai (q0 c43) e))))))))))))))))))))))))))) (by kernel_rfl)
      ·have h := si h; subst h
       exact pth Tryz.func33 [.r (.tu [.s (.b bt1.1), .s (.i .u64 bt1.2)]), .br false, .br false, .br false, .br false, .br false, .br false, .r (.ag [.b bt2.1, .sl .u32 bt2.2]), .br false, .br true, .r (.ag [.b bt21.1, .sl .u32 bt21.2]), .r (.ag [.b bt22.1, .sl .u32 bt22.2]), .r (.ag [.b bt23.1, .sl .u32 bt23.2]), .r (.ag [.b bt24.1, .sl .u32 bt24.2]), .r (.ag [.b bt25.1, .sl .u32 bt25.2]), .r (.s (.i .i64 t26)), .br false, .br false, .br false, .br false, .br false, .br false, .br false, .br false, .br false, .br false] (fun e => ai (gnomonref07_Cut.c A1) (ai (d0 c2) (ai (d0 c2) (ai (d0 c2) (ai (d0 c2) (ai (d0 c2) (ai (n0 c3) (ai (gnomonref04_Abs.c A4) (ai (d0 c5) (ai (d1 c34) (ai (gnomonref04_Shl.c A35) (ai (gnomonlaw09_units.c A36) (ai (gnomonlaw09_units.c A37) (ai (gnomonref04_Add.c A38) (ai (gnomonref04_Mul.c A39) (ai (gnomonref04_Cmp.c A40) (ai (d0 c41) (ai (d0 c41) (ai (d0 c41) (ai (q0 c42) (ai (q0 c42) (ai (q0 c42) (ai (d0 c41) (ai (q0 c42) (ai (d0 c41) (ai ff e)))))))))))))))))))))))))) (by kernel_rfl)
    ·have h := si h; subst h
     exact pth Tryz.func33 [.r (.tu [.s (.b bt1.1), .s (.i .u64 bt1.2)]), .br false, .br false, .br false, .br false, .br false, .br false, .r (.ag [.b bt2.1, .sl .u32 bt2.2]), .br false, .br false] (fun e => ai (gnomonref07_Cut.c A1) (ai (d0 c2) (ai (d0 c2) (ai (d0 c2) (ai (d0 c2) (ai (d0 c2) (ai (n0 c3) (ai (gnomonref04_Abs.c A4) (ai (d0 c5) (ai (d0 c34) e)))))))))) (by kernel_rfl)
  ·have h := si h; subst h
   exact pth Tryz.func33 [.r (.tu [.s (.b bt1.1), .s (.i .u64 bt1.2)]), .br false, .br false, .br false, .br false, .br false, .br true] (fun e => ai (gnomonref07_Cut.c A1) (ai (d0 c2) (ai (d0 c2) (ai (d0 c2) (ai (d0 c2) (ai (d0 c2) (ai (n1 c3) e))))))) (by kernel_rfl)
end Go.Proofs.YtokoadgahflafaaGreatDoor.PLib
