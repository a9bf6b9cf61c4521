/- Functions of the program as plain Lean functions (definitions as the print's), and that the machine's calls do what they do (contracts 'X.c', by Px). Condition: math/bits' table is laid. -/
import Derived.Test.YtokoadgahflafaaGreatDoorKSoftThroughDoublePxBr
import Derived.Test.YtokoadgahflafaaGreatDoorKSoftThroughDoubleGM
import Derived.Test.YtokoadgahflafaaGreatDoorKSoftThroughDoublePxMul
import Derived.Test.YtokoadgahflafaaGreatDoorKSoftThroughDoublePxR0
import Derived.Test.YtokoadgahflafaaGreatDoorKSoftThroughDoublePxOp
import Derived.Test.YtokoadgahflafaaGreatDoorKSoftThroughDoublePxL0
set_option linter.unusedVariables false
namespace Go.Proofs.YtokoadgahflafaaGreatDoor.PLib
open Go Go.RowKit Go.Proofs.YtokoadgahflafaaGreatDoorW.PrintWords Go.Proofs.YtokoadgahflafaaGreatDoorW.PrintMore Go.Proofs.YtokoadgahflafaaGreatDoor.Given Go.Proofs.YtokoadgahflafaaGreatDoor.Px
def binary_take.j0 : Nat → Int → Bool → Int → Int → Int → Int → Option (Int × Int × Int × Int × Bool × Int × Int)
 | 0, _, _, _, _, _, _ => none
 | k + 1, x1, x24, x456000, x456001, x456002, x456003 => if x24 = true then (some (x456000, x456001, x456002, x456003, false, 0, 2)) else ((binary_shape_sign.f x456000 x456001 x456002 x456003).bind fun t456 => ((binary_shape_sign.f x456000 x456001 x456002 x456003).bind fun t457 => (some (x456000, x456001, x456002, x456003, ((Go.bits .and .u64 x1 t456) != 0), Go.bits .andNot .u64 x1 t457, 0))))
def binary_take.f (k : Nat) (a0 : Int) (a1 : Int) : Option (Int × Int × Int × Int × Bool × Int × Int) := (binary_shapeOf.f a0).bind fun bt451 => (if (bt451.1 == 0 && (bt451.2.1 == 0 && (bt451.2.2.1 == 0 && (bt451.2.2.2 == 0)))) = true then (some (bt451.1, bt451.2.1, bt451.2.2.1, bt451.2.2.2, false, 0, 1)) else (if bt451.1 < 64 then (if 0 ≤ bt451.1 then (binary_take.j0 k a1 ((shr .u64 a1 bt451.1) != 0) bt451.1 bt451.2.1 bt451.2.2.1 bt451.2.2.2) else (none)) else (binary_take.j0 k a1 false bt451.1 bt451.2.1 bt451.2.2.1 bt451.2.2.2)))
theorem binary_take.mono_l : ∀ k, (∀ y0 y1 y2 y3 y4 y5, LeO (binary_take.j0 k y0 y1 y2 y3 y4 y5) (binary_take.j0 (k + 1) y0 y1 y2 y3 y4 y5))
 | 0 => fun _ _ _ _ _ _ r h => by simp [binary_take.j0] at h
 | k + 1 => by
  have ih0 := binary_take.mono_l k
  ·intro y0 y1 y2 y3 y4 y5
   unfold binary_take.j0
   repeat' first
   | (with_reducible exact ih0 _ _ _ _ _ _)
   | (with_reducible exact LeO.refl _)
   | (with_reducible exact LeO.none _)
   | (with_reducible refine LeO.ite ?_ ?_)
   | (with_reducible refine LeO.bind ?_ (fun _ => ?_))
   | exact ih0 _ _ _ _ _ _
   | exact LeO.none _
   | refine LeO.ite ?_ ?_
   | refine LeO.bind ?_ (fun _ => ?_)
theorem binary_take.mono : ∀ a0 a1 k, LeO (binary_take.f k a0 a1) (binary_take.f (k + 1) a0 a1) := by
 intro a0 a1 k
 have ih0 := binary_take.mono_l k
 unfold binary_take.f
 repeat' first
   | (with_reducible exact ih0 _ _ _ _ _ _)
   | (with_reducible exact LeO.refl _)
   | (with_reducible exact LeO.none _)
   | (with_reducible refine LeO.ite ?_ ?_)
   | (with_reducible refine LeO.bind ?_ (fun _ => ?_))
   | exact ih0 _ _ _ _ _ _
   | exact LeO.none _
   | refine LeO.ite ?_ ?_
   | refine LeO.bind ?_ (fun _ => ?_)
theorem binary_take.jc : ∀ k : Nat, (∀ (x1 : Int) (x24 : Bool) (x456000 : Int) (x456001 : Int) (x456002 : Int) (x456003 : Int) (r : Int × Int × Int × Int × Bool × Int × Int), binary_take.j0 k x1 x24 x456000 x456001 x456002 x456003 = some r → Fin Tryz.prog Gw 82 (nav (bodyOf Tryz.f82) [1, 1, 1, 0, 1] []) ⟨mkT 36 [(1, .s (.i .u64 x1)), (4, .s (.lo 0 0)), (8, .s (.lo 1 0)), (24, .s (.b x24))], [some (112, [.i .i64 0, .i .i64 0, .i .i64 0, .i .u64 0]), some (112, [.i .i64 x456000, .i .i64 x456001, .i .i64 x456002, .i .u64 x456003])]⟩ (· = .tu [.ag [.i .i64 r.1, .i .i64 r.2.1, .i .i64 r.2.2.1, .i .u64 r.2.2.2.1], .s (.b r.2.2.2.2.1), .s (.i .u64 r.2.2.2.2.2.1), .s (.i .i64 r.2.2.2.2.2.2)]))
 | 0 => (fun _ _ _ _ _ _ _ h => nn h)
 | k + 1 => by
  have ih := binary_take.jc k
  ·intro x1 x24 x456000 x456001 x456002 x456003 r h
   rw [binary_take.j0] at h
   rcases ite_e h with ⟨c1, h⟩ | ⟨c1, h⟩
   ·have h := si h; subst h
    exact jth Tryz.func82 [.br true] (fun e => ai c1 e) (by kernel_rfl)
   ·obtain ⟨t456, A2, h⟩ := bnd h
    obtain ⟨t457, A3, h⟩ := bnd h
    have h := si h; subst h
    exact jth Tryz.func82 [.br false, .r (.s (.i .u64 t456)), .r (.s (.i .u64 t457))] (fun e => ai (z0 c1) (ai (binary_shape_sign.c A2) (ai (binary_shape_sign.c A3) e))) (by kernel_rfl)
theorem binary_take.c {k : Nat} {a0 : Int} {a1 : Int} {r : Int × Int × Int × Int × Bool × Int × Int} (h : binary_take.f k a0 a1 = some r) : Con Tryz.prog Gw 82 [.s (.i .i64 a0), .s (.i .u64 a1)] (· = .tu [.ag [.i .i64 r.1, .i .i64 r.2.1, .i .i64 r.2.2.1, .i .u64 r.2.2.2.1], .s (.b r.2.2.2.2.1), .s (.i .u64 r.2.2.2.2.2.1), .s (.i .i64 r.2.2.2.2.2.2)]) := by
 unfold binary_take.f at h
 obtain ⟨bt451, A1, h⟩ := bnd h
 rcases ite_e h with ⟨c2, h⟩ | ⟨c2, h⟩
 ·have h := si h; subst h
  exact pth Tryz.func82 [.r (.ag [.i .i64 bt451.1, .i .i64 bt451.2.1, .i .i64 bt451.2.2.1, .i .u64 bt451.2.2.2]), .br true] (fun e => ai (binary_shapeOf.c A1) (ai c2 e)) (by kernel_rfl)
 ·rcases ite_e h with ⟨c3, h⟩ | ⟨c3, h⟩
  ·rcases ite_e h with ⟨c4, h⟩ | ⟨c4, h⟩
   ·exact pth Tryz.func82 [.r (.ag [.i .i64 bt451.1, .i .i64 bt451.2.1, .i .i64 bt451.2.2.1, .i .u64 bt451.2.2.2]), .br false, .br true, .br true, .br true, .br true, .br true, .br true, .cut 0 [1, 4, 8, 24] [0, 1] []] (fun _ => ai (binary_shapeOf.c A1) (ai (z0 c2) (ai (d1 c3) (ai (d1 c3) (ai (d1 c3) (ai (d1 c3) (ai c4 (ai (d1 c3) (ai (d1 c3) (binary_take.jc k _ _ _ _ _ _ _ h)))))))))) (by kernel_rfl)
   ·cases h
  ·exact pth Tryz.func82 [.r (.ag [.i .i64 bt451.1, .i .i64 bt451.2.1, .i .i64 bt451.2.2.1, .i .u64 bt451.2.2.2]), .br false, .br false, .br false, .br false, .br false, .br false, .br false, .cut 0 [1, 4, 8, 24] [0, 1] []] (fun _ => ai (binary_shapeOf.c A1) (ai (z0 c2) (ai (d0 c3) (ai (d0 c3) (ai (d0 c3) (ai (d0 c3) (ai (d0 c3) (ai (d0 c3) (binary_take.jc k _ _ _ _ _ _ _ h))))))))) (by kernel_rfl)
def binary_finite.j0 : Nat → Bool → Int → Int → Bool → Int → Int → Int → Int → Option (Int × Int × Int × Int × Bool × Int × Int)
 | 0, _, _, _, _, _, _, _, _ => none
 | k + 1, x9, x10, x11, x27, x467000, x467001, x467002, x467003 => if x27 = true then (some (x467000, x467001, x467002, x467003, false, 0, 6)) else (some (x467000, x467001, x467002, x467003, x9, x10, x11))
def binary_finite.f (k : Nat) (a0 : Int) (a1 : Int) : Option (Int × Int × Int × Int × Bool × Int × Int) := (binary_take.f k a0 a1).bind fun bt459 => (if bt459.2.2.2.2.2.2 = 0 then ((binary_shape_inf.f bt459.1 bt459.2.1 bt459.2.2.1 bt459.2.2.2.1).bind fun t467 => (binary_finite.j0 k bt459.2.2.2.2.1 bt459.2.2.2.2.2.1 bt459.2.2.2.2.2.2 (decide (bt459.2.2.2.2.2.1 ≥ t467)) bt459.1 bt459.2.1 bt459.2.2.1 bt459.2.2.2.1)) else (binary_finite.j0 k bt459.2.2.2.2.1 bt459.2.2.2.2.2.1 bt459.2.2.2.2.2.2 false bt459.1 bt459.2.1 bt459.2.2.1 bt459.2.2.2.1))
theorem binary_finite.mono_l : ∀ k, (∀ y0 y1 y2 y3 y4 y5 y6 y7, LeO (binary_finite.j0 k y0 y1 y2 y3 y4 y5 y6 y7) (binary_finite.j0 (k + 1) y0 y1 y2 y3 y4 y5 y6 y7))
 | 0 => fun _ _ _ _ _ _ _ _ r h => by simp [binary_finite.j0] at h
 | k + 1 => by
  have ih0 := binary_finite.mono_l k
  ·intro y0 y1 y2 y3 y4 y5 y6 y7
   unfold binary_finite.j0
   repeat' first
   | (with_reducible exact ih0 _ _ _ _ _ _ _ _)
   | (with_reducible exact binary_take.mono _ _ _)
   | (with_reducible exact LeO.refl _)
   | (with_reducible exact LeO.none _)
   | (with_reducible refine LeO.ite ?_ ?_)
   | (with_reducible refine LeO.bind ?_ (fun _ => ?_))
   | exact ih0 _ _ _ _ _ _ _ _
   | exact binary_take.mono _ _ _
   | exact LeO.none _
   | refine LeO.ite ?_ ?_
   | refine LeO.bind ?_ (fun _ => ?_)
theorem binary_finite.mono : ∀ a0 a1 k, LeO (binary_finite.f k a0 a1) (binary_finite.f (k + 1) a0 a1) := by
 intro a0 a1 k
 have ih0 := binary_finite.mono_l k
 unfold binary_finite.f
 repeat' first
   | (with_reducible exact ih0 _ _ _ _ _ _ _ _)
   | (with_reducible exact binary_take.mono _ _ _)
   | (with_reducible exact LeO.refl _)
   | (with_reducible exact LeO.none _)
   | (with_reducible refine LeO.ite ?_ ?_)
   | (with_reducible refine LeO.bind ?_ (fun _ => ?_))
   | exact ih0 _ _ _ _ _ _ _ _
   | exact binary_take.mono _ _ _
   | exact LeO.none _
   | refine LeO.ite ?_ ?_
   | refine LeO.bind ?_ (fun _ => ?_)
theorem binary_finite.jc : ∀ k : Nat, (∀ (x9 : Bool) (x10 : Int) (x11 : Int) (x27 : Bool) (x467000 : Int) (x467001 : Int) (x467002 : Int) (x467003 : Int) (r : Int × Int × Int × Int × Bool × Int × Int), binary_finite.j0 k x9 x10 x11 x27 x467000 x467001 x467002 x467003 = some r → Fin Tryz.prog Gw 133 (nav (bodyOf Tryz.f133) [1, 1, 0, 1] []) ⟨mkT 33 [(4, .s (.lo 0 0)), (8, .s (.lo 1 0)), (9, .s (.b x9)), (10, .s (.i .u64 x10)), (11, .s (.i .i64 x11)), (27, .s (.b x27))], [some (112, [.i .i64 0, .i .i64 0, .i .i64 0, .i .u64 0]), some (112, [.i .i64 x467000, .i .i64 x467001, .i .i64 x467002, .i .u64 x467003])]⟩ (· = .tu [.ag [.i .i64 r.1, .i .i64 r.2.1, .i .i64 r.2.2.1, .i .u64 r.2.2.2.1], .s (.b r.2.2.2.2.1), .s (.i .u64 r.2.2.2.2.2.1), .s (.i .i64 r.2.2.2.2.2.2)]))
 | 0 => (fun _ _ _ _ _ _ _ _ _ h => nn h)
 | k + 1 => by
  have ih := binary_finite.jc k
  ·intro x9 x10 x11 x27 x467000 x467001 x467002 x467003 r h
   rw [binary_finite.j0] at h
   rcases ite_e h with ⟨c1, h⟩ | ⟨c1, h⟩
   ·have h := si h; subst h
    exact jth Tryz.func133 [.br true] (fun e => ai c1 e) (by kernel_rfl)
   ·have h := si h; subst h
    exact jth Tryz.func133 [.br false] (fun e => ai (z0 c1) e) (by kernel_rfl)
theorem binary_finite.c {k : Nat} {a0 : Int} {a1 : Int} {r : Int × Int × Int × Int × Bool × Int × Int} (h : binary_finite.f k a0 a1 = some r) : Con Tryz.prog Gw 133 [.s (.i .i64 a0), .s (.i .u64 a1)] (· = .tu [.ag [.i .i64 r.1, .i .i64 r.2.1, .i .i64 r.2.2.1, .i .u64 r.2.2.2.1], .s (.b r.2.2.2.2.1), .s (.i .u64 r.2.2.2.2.2.1), .s (.i .i64 r.2.2.2.2.2.2)]) := by
 unfold binary_finite.f at h
 obtain ⟨bt459, A1, h⟩ := bnd h
 rcases ite_e h with ⟨c2, h⟩ | ⟨c2, h⟩
 ·obtain ⟨t467, A3, h⟩ := bnd h
  exact pth Tryz.func133 [.r (.tu [.ag [.i .i64 bt459.1, .i .i64 bt459.2.1, .i .i64 bt459.2.2.1, .i .u64 bt459.2.2.2.1], .s (.b bt459.2.2.2.2.1), .s (.i .u64 bt459.2.2.2.2.2.1), .s (.i .i64 bt459.2.2.2.2.2.2)]), .br true, .br true, .br true, .r (.s (.i .u64 t467)), .br true, .br true, .cut 0 [4, 8, 9, 10, 11, 27] [0, 1] []] (fun _ => ai (binary_take.c A1) (ai (q1 c2) (ai (q1 c2) (ai (q1 c2) (ai (binary_shape_inf.c A3) (ai (q1 c2) (ai (q1 c2) (binary_finite.jc k _ _ _ _ _ _ _ _ _ h)))))))) (by kernel_rfl)
 ·exact pth Tryz.func133 [.r (.tu [.ag [.i .i64 bt459.1, .i .i64 bt459.2.1, .i .i64 bt459.2.2.1, .i .u64 bt459.2.2.2.1], .s (.b bt459.2.2.2.2.1), .s (.i .u64 bt459.2.2.2.2.2.1), .s (.i .i64 bt459.2.2.2.2.2.2)]), .br false, .br false, .br false, .br false, .br false, .cut 0 [4, 8, 9, 10, 11, 27] [0, 1] []] (fun _ => ai (binary_take.c A1) (ai (q0 c2) (ai (q0 c2) (ai (q0 c2) (ai (q0 c2) (ai (q0 c2) (binary_finite.jc k _ _ _ _ _ _ _ _ _ h))))))) (by kernel_rfl)
def binary_shape_parts.f (a0_0 : Int) (a0_1 : Int) (a0_2 : Int) (a0_3 : Int) (a1 : Int) : Option (Int × Int) := (binary_shape_hidden.f a0_0 a0_1 a0_2 a0_3).bind fun t469 => (if t469 = 0 then (none) else ((binary_shape_hidden.f a0_0 a0_1 a0_2 a0_3).bind fun t470 => (if t470 = 0 then (none) else (if (IntKind.u64.wrap (Int.tdiv a1 t469)) = 0 then (some (Int.tmod a1 t470, a0_2)) else ((binary_shape_hidden.f a0_0 a0_1 a0_2 a0_3).bind fun t471 => (some (IntKind.u64.wrap (t471 + (Int.tmod a1 t470)), wrap64 ((wrap64 (a0_2 + (wrap64 (IntKind.u64.wrap (Int.tdiv a1 t469))))) - 1))))))))
theorem binary_shape_parts.c {a0_0 : Int} {a0_1 : Int} {a0_2 : Int} {a0_3 : Int} {a1 : Int} {r : Int × Int} (h : binary_shape_parts.f a0_0 a0_1 a0_2 a0_3 a1 = some r) : Con Tryz.prog Gw 87 [.ag [.i .i64 a0_0, .i .i64 a0_1, .i .i64 a0_2, .i .u64 a0_3], .s (.i .u64 a1)] (· = .tu [.s (.i .u64 r.1), .s (.i .i64 r.2)]) := by
 unfold binary_shape_parts.f at h
 obtain ⟨t469, A1, h⟩ := bnd h
 rcases ite_e h with ⟨c2, h⟩ | ⟨c2, h⟩
 ·cases h
 ·obtain ⟨t470, A3, h⟩ := bnd h
  rcases ite_e h with ⟨c4, h⟩ | ⟨c4, h⟩
  ·cases h
  ·rcases ite_e h with ⟨c5, h⟩ | ⟨c5, h⟩
   ·have h := si h; subst h
    exact pth Tryz.func87 [.r (.s (.i .u64 t469)), .r (.s (.i .u64 t470)), .br true] (fun e => ai (binary_shape_hidden.c A1) (ai c2 (ai (binary_shape_hidden.c A3) (ai c4 (ai (q1 c5) e))))) (by kernel_rfl)
   ·obtain ⟨t471, A6, h⟩ := bnd h
    have h := si h; subst h
    exact pth Tryz.func87 [.r (.s (.i .u64 t469)), .r (.s (.i .u64 t470)), .br false, .r (.s (.i .u64 t471))] (fun e => ai (binary_shape_hidden.c A1) (ai c2 (ai (binary_shape_hidden.c A3) (ai c4 (ai (q0 c5) (ai (binary_shape_hidden.c A6) e)))))) (by kernel_rfl)
def dyadic_Make.j0 : Nat → Int → Int → Bool → Bool → List Int → Option (Bool × List Int × Int × Int)
 | 0, _, _, _, _, _ => none
 | k + 1, x1, x6, x38, x473000, x473001 => if x38 = true then (some (false, ([] : List Int), 0, 5)) else ((nat_Shr.f x473001 x6).bind fun bt476 => (some (x473000, bt476.1, wrap64 (x1 + x6), 0)))
def dyadic_Make.f (k : Nat) (a0_0 : Bool) (l0_1 : List Int) (a1 : Int) : Option (Bool × List Int × Int × Int) := (num_Form.f a0_0 l0_1).bind fun t474 => (if t474 = true then (if (l0_1.length : Int) = 0 then (some (false, ([] : List Int), 0, 0)) else ((nat_Trail.f l0_1).bind fun t475 => (if a1 > 1048576 then (dyadic_Make.j0 k a1 t475 true a0_0 l0_1) else (if a1 < (-1572864) then (dyadic_Make.j0 k a1 t475 true a0_0 l0_1) else (if (wrap64 (a1 + t475)) < (-1048576) then (dyadic_Make.j0 k a1 t475 true a0_0 l0_1) else (dyadic_Make.j0 k a1 t475 (decide ((wrap64 (a1 + t475)) > 1048576)) a0_0 l0_1)))))) else (some (false, ([] : List Int), 0, 2)))
theorem dyadic_Make.mono_l : ∀ k, (∀ y0 y1 y2 y3 y4, LeO (dyadic_Make.j0 k y0 y1 y2 y3 y4) (dyadic_Make.j0 (k + 1) y0 y1 y2 y3 y4))
 | 0 => fun _ _ _ _ _ r h => by simp [dyadic_Make.j0] at h
 | k + 1 => by
  have ih0 := dyadic_Make.mono_l k
  ·intro y0 y1 y2 y3 y4
   unfold dyadic_Make.j0
   repeat' first
   | (with_reducible exact ih0 _ _ _ _ _)
   | (with_reducible exact LeO.refl _)
   | (with_reducible exact LeO.none _)
   | (with_reducible refine LeO.ite ?_ ?_)
   | (with_reducible refine LeO.bind ?_ (fun _ => ?_))
   | exact ih0 _ _ _ _ _
   | exact LeO.none _
   | refine LeO.ite ?_ ?_
   | refine LeO.bind ?_ (fun _ => ?_)
theorem dyadic_Make.mono : ∀ a0 a1 a2 k, LeO (dyadic_Make.f k a0 a1 a2) (dyadic_Make.f (k + 1) a0 a1 a2) := by
 intro a0 a1 a2 k
 have ih0 := dyadic_Make.mono_l k
 unfold dyadic_Make.f
 repeat' first
   | (with_reducible exact ih0 _ _ _ _ _)
   | (with_reducible exact LeO.refl _)
   | (with_reducible exact LeO.none _)
   | (with_reducible refine LeO.ite ?_ ?_)
   | (with_reducible refine LeO.bind ?_ (fun _ => ?_))
   | exact ih0 _ _ _ _ _
   | exact LeO.none _
   | refine LeO.ite ?_ ?_
   | refine LeO.bind ?_ (fun _ => ?_)
theorem dyadic_Make.jc : ∀ k : Nat, (∀ (x1 : Int) (x6 : Int) (x38 : Bool) (x473000 : Bool) (x473001 : List Int) (r : Bool × List Int × Int × Int), dyadic_Make.j0 k x1 x6 x38 x473000 x473001 = some r → Fin Tryz.prog Gw 150 (nav (bodyOf Tryz.f150) [1, 1, 1, 1, 0, 1] []) ⟨mkT 55 [(1, .s (.i .i64 x1)), (2, .s (.lo 0 0)), (4, .s (.lo 1 0)), (6, .s (.i .i64 x6)), (38, .s (.b x38))], [some (84, [.b x473000, .sl .u64 x473001]), some (86, [.b false, .sl .u64 ([]), .i .i64 0])]⟩ (· = .tu [.ag [.b r.1, .sl .u64 r.2.1, .i .i64 r.2.2.1], .s (.i .i64 r.2.2.2)]))
 | 0 => (fun _ _ _ _ _ _ h => nn h)
 | k + 1 => by
  have ih := dyadic_Make.jc k
  ·intro x1 x6 x38 x473000 x473001 r h
   rw [dyadic_Make.j0] at h
   rcases ite_e h with ⟨c1, h⟩ | ⟨c1, h⟩
   ·have h := si h; subst h
    exact jth Tryz.func150 [.br true] (fun e => ai c1 e) (by kernel_rfl)
   ·obtain ⟨bt476, A2, h⟩ := bnd h
    have h := si h; subst h
    exact jth Tryz.func150 [.br false, .r (.tu [.s (.sl .u64 bt476.1), .s (.i .i64 bt476.2)])] (fun e => ai (z0 c1) (ai (nat_Shr.c A2) e)) (by kernel_rfl)
theorem dyadic_Make.c {k : Nat} {a0_0 : Bool} {l0_1 : List Int} {a1 : Int} {r : Bool × List Int × Int × Int} (h : dyadic_Make.f k a0_0 l0_1 a1 = some r) : Con Tryz.prog Gw 150 [.ag [.b a0_0, .sl .u64 l0_1], .s (.i .i64 a1)] (· = .tu [.ag [.b r.1, .sl .u64 r.2.1, .i .i64 r.2.2.1], .s (.i .i64 r.2.2.2)]) := by
 unfold dyadic_Make.f at h
 obtain ⟨t474, A1, h⟩ := bnd h
 rcases ite_e h with ⟨c2, h⟩ | ⟨c2, h⟩
 ·rcases ite_e h with ⟨c3, h⟩ | ⟨c3, h⟩
  ·have h := si h; subst h
   exact pth Tryz.func150 [.r (.s (.b t474)), .br false, .br true] (fun e => ai (num_Form.c A1) (ai (nt1 c2) (ai (q1 c3) e))) (by kernel_rfl)
  ·obtain ⟨t475, A4, h⟩ := bnd h
   rcases ite_e h with ⟨c5, h⟩ | ⟨c5, h⟩
   ·exact pth Tryz.func150 [.r (.s (.b t474)), .br false, .br false, .r (.s (.i .i64 t475)), .br true, .br true, .br true, .br true, .br true, .br true, .br true, .br true, .br true, .br true, .br true, .br true, .br true, .cut 0 [1, 2, 4, 6, 38] [0, 1] []] (fun _ => ai (num_Form.c A1) (ai (nt1 c2) (ai (q0 c3) (ai (nat_Trail.c A4) (ai (d1 c5) (ai (d1 c5) (ai (d1 c5) (ai tt (ai tt (ai tt (ai tt (ai tt (ai tt (ai tt (ai tt (ai tt (ai tt (dyadic_Make.jc k _ _ _ _ _ _ h)))))))))))))))))) (by kernel_rfl)
   ·rcases ite_e h with ⟨c6, h⟩ | ⟨c6, h⟩
    ·exact pth Tryz.func150 [.r (.s (.b t474)), .br false, .br false, .r (.s (.i .i64 t475)), .br false, .br false, .br false, .br true, .br true, .br true, .br true, .br true, .br true, .br true, .br true, .br true, .br true, .cut 0 [1, 2, 4, 6, 38] [0, 1] []] (fun _ => ai (num_Form.c A1) (ai (nt1 c2) (ai (q0 c3) (ai (nat_Trail.c A4) (ai (d0 c5) (ai (d0 c5) (ai (d0 c5) (ai (d1 c6) (ai (d1 c6) (ai (d1 c6) (ai (d1 c6) (ai (d1 c6) (ai tt (ai tt (ai tt (ai tt (ai tt (dyadic_Make.jc k _ _ _ _ _ _ h)))))))))))))))))) (by kernel_rfl)
    ·rcases ite_e h with ⟨c7, h⟩ | ⟨c7, h⟩
     ·exact pth Tryz.func150 [.r (.s (.b t474)), .br false, .br false, .r (.s (.i .i64 t475)), .br false, .br false, .br false, .br false, .br false, .br false, .br false, .br false, .br true, .br true, .br true, .br true, .br true, .cut 0 [1, 2, 4, 6, 38] [0, 1] []] (fun _ => ai (num_Form.c A1) (ai (nt1 c2) (ai (q0 c3) (ai (nat_Trail.c A4) (ai (d0 c5) (ai (d0 c5) (ai (d0 c5) (ai (d0 c6) (ai (d0 c6) (ai (d0 c6) (ai (d0 c6) (ai (d0 c6) (ai (d1 c7) (ai (d1 c7) (ai (d1 c7) (ai (d1 c7) (ai (d1 c7) (dyadic_Make.jc k _ _ _ _ _ _ h)))))))))))))))))) (by kernel_rfl)
     ·exact pth Tryz.func150 [.r (.s (.b t474)), .br false, .br false, .r (.s (.i .i64 t475)), .br false, .br false, .br false, .br false, .br false, .br false, .br false, .br false, .br false, .br false, .br false, .br false, .br false, .cut 0 [1, 2, 4, 6, 38] [0, 1] []] (fun _ => ai (num_Form.c A1) (ai (nt1 c2) (ai (q0 c3) (ai (nat_Trail.c A4) (ai (d0 c5) (ai (d0 c5) (ai (d0 c5) (ai (d0 c6) (ai (d0 c6) (ai (d0 c6) (ai (d0 c6) (ai (d0 c6) (ai (d0 c7) (ai (d0 c7) (ai (d0 c7) (ai (d0 c7) (ai (d0 c7) (dyadic_Make.jc k _ _ _ _ _ _ h)))))))))))))))))) (by kernel_rfl)
 ·have h := si h; subst h
  exact pth Tryz.func150 [.r (.s (.b t474)), .br true] (fun e => ai (num_Form.c A1) (ai (nt0 (z0 c2)) e)) (by kernel_rfl)
def binary_number.f (k : Nat) (a0 : Bool) (a1 : Int) (a2 : Int) : Option (Bool × List Int × Int × Int) := if a0 = true then ((nat_Word.f a1).bind fun t481 => ((dyadic_Make.f k (a1 != 0) t481 a2).bind fun bt484 => (some (bt484.1, bt484.2.1, bt484.2.2.1, bt484.2.2.2)))) else ((nat_Word.f a1).bind fun t490 => ((dyadic_Make.f k false t490 a2).bind fun bt493 => (some (bt493.1, bt493.2.1, bt493.2.2.1, bt493.2.2.2))))
theorem binary_number.mono : ∀ a0 a1 a2 k, LeO (binary_number.f k a0 a1 a2) (binary_number.f (k + 1) a0 a1 a2) := by
 intro a0 a1 a2 k
 unfold binary_number.f
 repeat' first
   | (with_reducible exact dyadic_Make.mono _ _ _ _)
   | (with_reducible exact LeO.refl _)
   | (with_reducible exact LeO.none _)
   | (with_reducible refine LeO.ite ?_ ?_)
   | (with_reducible refine LeO.bind ?_ (fun _ => ?_))
   | exact dyadic_Make.mono _ _ _ _
   | exact LeO.none _
   | refine LeO.ite ?_ ?_
   | refine LeO.bind ?_ (fun _ => ?_)
theorem binary_number.c {k : Nat} {a0 : Bool} {a1 : Int} {a2 : Int} {r : Bool × List Int × Int × Int} (h : binary_number.f k a0 a1 a2 = some r) : Con Tryz.prog Gw 134 [.s (.b a0), .s (.i .u64 a1), .s (.i .i64 a2)] (· = .tu [.ag [.b r.1, .sl .u64 r.2.1, .i .i64 r.2.2.1], .s (.i .i64 r.2.2.2)]) := by
 unfold binary_number.f at h
 rcases ite_e h with ⟨c1, h⟩ | ⟨c1, h⟩
 ·obtain ⟨t481, A2, h⟩ := bnd h
  obtain ⟨bt484, A3, h⟩ := bnd h
  have h := si h; subst h
  exact pth Tryz.func134 [.br true, .br true, .br true, .r (.s (.sl .u64 t481)), .r (.tu [.ag [.b bt484.1, .sl .u64 bt484.2.1, .i .i64 bt484.2.2.1], .s (.i .i64 bt484.2.2.2)])] (fun e => ai c1 (ai c1 (ai c1 (ai (nat_Word.c A2) (ai (dyadic_Make.c A3) e))))) (by kernel_rfl)
 ·obtain ⟨t490, A4, h⟩ := bnd h
  obtain ⟨bt493, A5, h⟩ := bnd h
  have h := si h; subst h
  exact pth Tryz.func134 [.br false, .br false, .br false, .r (.s (.sl .u64 t490)), .r (.tu [.ag [.b bt493.1, .sl .u64 bt493.2.1, .i .i64 bt493.2.2.1], .s (.i .i64 bt493.2.2.2)])] (fun e => ai (z0 c1) (ai (z0 c1) (ai (z0 c1) (ai (nat_Word.c A4) (ai (dyadic_Make.c A5) e))))) (by kernel_rfl)
def binary_shape_class.f (a0_0 : Int) (a0_1 : Int) (a0_2 : Int) (a0_3 : Int) (a1 : Int) : Option (Int) := if a1 = 0 then (some 0) else ((binary_shape_hidden.f a0_0 a0_1 a0_2 a0_3).bind fun t517 => (if a1 < t517 then (some 1) else ((binary_shape_inf.f a0_0 a0_1 a0_2 a0_3).bind fun t518 => (if a1 < t518 then (some 2) else ((binary_shape_inf.f a0_0 a0_1 a0_2 a0_3).bind fun t519 => (if a1 = t519 then (some 3) else (some 4)))))))
theorem binary_shape_class.c {a0_0 : Int} {a0_1 : Int} {a0_2 : Int} {a0_3 : Int} {a1 : Int} {r : Int} (h : binary_shape_class.f a0_0 a0_1 a0_2 a0_3 a1 = some r) : Con Tryz.prog Gw 84 [.ag [.i .i64 a0_0, .i .i64 a0_1, .i .i64 a0_2, .i .u64 a0_3], .s (.i .u64 a1)] (· = .s (.i .i64 r)) := by
 unfold binary_shape_class.f at h
 rcases ite_e h with ⟨c1, h⟩ | ⟨c1, h⟩
 ·have h := si h; subst h
  exact pth Tryz.func84 [.br true] (fun e => ai (q1 c1) e) (by kernel_rfl)
 ·obtain ⟨t517, A2, h⟩ := bnd h
  rcases ite_e h with ⟨c3, h⟩ | ⟨c3, h⟩
  ·have h := si h; subst h
   exact pth Tryz.func84 [.br false, .r (.s (.i .u64 t517)), .br true] (fun e => ai (q0 c1) (ai (binary_shape_hidden.c A2) (ai (d1 c3) e))) (by kernel_rfl)
  ·obtain ⟨t518, A4, h⟩ := bnd h
   rcases ite_e h with ⟨c5, h⟩ | ⟨c5, h⟩
   ·have h := si h; subst h
    exact pth Tryz.func84 [.br false, .r (.s (.i .u64 t517)), .br false, .r (.s (.i .u64 t518)), .br true] (fun e => ai (q0 c1) (ai (binary_shape_hidden.c A2) (ai (d0 c3) (ai (binary_shape_inf.c A4) (ai (d1 c5) e))))) (by kernel_rfl)
   ·obtain ⟨t519, A6, h⟩ := bnd h
    rcases ite_e h with ⟨c7, h⟩ | ⟨c7, h⟩
    ·have h := si h; subst h
     exact pth Tryz.func84 [.br false, .r (.s (.i .u64 t517)), .br false, .r (.s (.i .u64 t518)), .br false, .r (.s (.i .u64 t519)), .br true] (fun e => ai (q0 c1) (ai (binary_shape_hidden.c A2) (ai (d0 c3) (ai (binary_shape_inf.c A4) (ai (d0 c5) (ai (binary_shape_inf.c A6) (ai (q1 c7) e))))))) (by kernel_rfl)
    ·have h := si h; subst h
     exact pth Tryz.func84 [.br false, .r (.s (.i .u64 t517)), .br false, .r (.s (.i .u64 t518)), .br false, .r (.s (.i .u64 t519)), .br false] (fun e => ai (q0 c1) (ai (binary_shape_hidden.c A2) (ai (d0 c3) (ai (binary_shape_inf.c A4) (ai (d0 c5) (ai (binary_shape_inf.c A6) (ai (q0 c7) e))))))) (by kernel_rfl)
def binary_ClassOf.f (k : Nat) (a0 : Int) (a1 : Int) : Option (Int × Int) := (binary_take.f k a0 a1).bind fun bt520 => (if bt520.2.2.2.2.2.2 = 0 then ((binary_shape_class.f bt520.1 bt520.2.1 bt520.2.2.1 bt520.2.2.2.1 bt520.2.2.2.2.2.1).bind fun t528 => (some (t528, 0))) else (some (0, bt520.2.2.2.2.2.2)))
theorem binary_ClassOf.mono : ∀ a0 a1 k, LeO (binary_ClassOf.f k a0 a1) (binary_ClassOf.f (k + 1) a0 a1) := by
 intro a0 a1 k
 unfold binary_ClassOf.f
 repeat' first
   | (with_reducible exact binary_take.mono _ _ _)
   | (with_reducible exact LeO.refl _)
   | (with_reducible exact LeO.none _)
   | (with_reducible refine LeO.ite ?_ ?_)
   | (with_reducible refine LeO.bind ?_ (fun _ => ?_))
   | exact binary_take.mono _ _ _
   | exact LeO.none _
   | refine LeO.ite ?_ ?_
   | refine LeO.bind ?_ (fun _ => ?_)
theorem binary_ClassOf.c {k : Nat} {a0 : Int} {a1 : Int} {r : Int × Int} (h : binary_ClassOf.f k a0 a1 = some r) : Con Tryz.prog Gw 89 [.s (.i .i64 a0), .s (.i .u64 a1)] (· = .tu [.s (.i .i64 r.1), .s (.i .i64 r.2)]) := by
 unfold binary_ClassOf.f at h
 obtain ⟨bt520, A1, h⟩ := bnd h
 rcases ite_e h with ⟨c2, h⟩ | ⟨c2, h⟩
 ·obtain ⟨t528, A3, h⟩ := bnd h
  have h := si h; subst h
  exact pth Tryz.func89 [.r (.tu [.ag [.i .i64 bt520.1, .i .i64 bt520.2.1, .i .i64 bt520.2.2.1, .i .u64 bt520.2.2.2.1], .s (.b bt520.2.2.2.2.1), .s (.i .u64 bt520.2.2.2.2.2.1), .s (.i .i64 bt520.2.2.2.2.2.2)]), .br false, .r (.s (.i .i64 t528))] (fun e => ai (binary_take.c A1) (ai (n0 c2) (ai (binary_shape_class.c A3) e))) (by kernel_rfl)
 ·have h := si h; subst h
  exact pth Tryz.func89 [.r (.tu [.ag [.i .i64 bt520.1, .i .i64 bt520.2.1, .i .i64 bt520.2.2.1, .i .u64 bt520.2.2.2.1], .s (.b bt520.2.2.2.2.1), .s (.i .u64 bt520.2.2.2.2.2.1), .s (.i .i64 bt520.2.2.2.2.2.2)]), .br true] (fun e => ai (binary_take.c A1) (ai (n1 c2) e)) (by kernel_rfl)
def binary_rank.f (k : Nat) (a0 : Int) (a1 : Int) : Option (Int × Int × Int × Int × Int × Int) := (binary_take.f k a0 a1).bind fun bt556 => (if bt556.2.2.2.2.2.2 = 0 then ((binary_shape_inf.f bt556.1 bt556.2.1 bt556.2.2.1 bt556.2.2.2.1).bind fun t564 => (if bt556.2.2.2.2.2.1 > t564 then (some (bt556.1, bt556.2.1, bt556.2.2.1, bt556.2.2.2.1, 0, 6)) else (if bt556.2.2.2.2.1 = true then (some (bt556.1, bt556.2.1, bt556.2.2.1, bt556.2.2.2.1, wrap64 (-(wrap64 (bt556.2.2.2.2.2.1))), 0)) else (some (bt556.1, bt556.2.1, bt556.2.2.1, bt556.2.2.2.1, wrap64 (bt556.2.2.2.2.2.1), 0))))) else (some (bt556.1, bt556.2.1, bt556.2.2.1, bt556.2.2.2.1, 0, bt556.2.2.2.2.2.2)))
theorem binary_rank.mono : ∀ a0 a1 k, LeO (binary_rank.f k a0 a1) (binary_rank.f (k + 1) a0 a1) := by
 intro a0 a1 k
 unfold binary_rank.f
 repeat' first
   | (with_reducible exact binary_take.mono _ _ _)
   | (with_reducible exact LeO.refl _)
   | (with_reducible exact LeO.none _)
   | (with_reducible refine LeO.ite ?_ ?_)
   | (with_reducible refine LeO.bind ?_ (fun _ => ?_))
   | exact binary_take.mono _ _ _
   | exact LeO.none _
   | refine LeO.ite ?_ ?_
   | refine LeO.bind ?_ (fun _ => ?_)
theorem binary_rank.c {k : Nat} {a0 : Int} {a1 : Int} {r : Int × Int × Int × Int × Int × Int} (h : binary_rank.f k a0 a1 = some r) : Con Tryz.prog Gw 124 [.s (.i .i64 a0), .s (.i .u64 a1)] (· = .tu [.ag [.i .i64 r.1, .i .i64 r.2.1, .i .i64 r.2.2.1, .i .u64 r.2.2.2.1], .s (.i .i64 r.2.2.2.2.1), .s (.i .i64 r.2.2.2.2.2)]) := by
 unfold binary_rank.f at h
 obtain ⟨bt556, A1, h⟩ := bnd h
 rcases ite_e h with ⟨c2, h⟩ | ⟨c2, h⟩
 ·obtain ⟨t564, A3, h⟩ := bnd h
  rcases ite_e h with ⟨c4, h⟩ | ⟨c4, h⟩
  ·have h := si h; subst h
   exact pth Tryz.func124 [.r (.tu [.ag [.i .i64 bt556.1, .i .i64 bt556.2.1, .i .i64 bt556.2.2.1, .i .u64 bt556.2.2.2.1], .s (.b bt556.2.2.2.2.1), .s (.i .u64 bt556.2.2.2.2.2.1), .s (.i .i64 bt556.2.2.2.2.2.2)]), .br false, .r (.s (.i .u64 t564)), .br true] (fun e => ai (binary_take.c A1) (ai (n0 c2) (ai (binary_shape_inf.c A3) (ai (d1 c4) e)))) (by kernel_rfl)
  ·rcases ite_e h with ⟨c5, h⟩ | ⟨c5, h⟩
   ·have h := si h; subst h
    exact pth Tryz.func124 [.r (.tu [.ag [.i .i64 bt556.1, .i .i64 bt556.2.1, .i .i64 bt556.2.2.1, .i .u64 bt556.2.2.2.1], .s (.b bt556.2.2.2.2.1), .s (.i .u64 bt556.2.2.2.2.2.1), .s (.i .i64 bt556.2.2.2.2.2.2)]), .br false, .r (.s (.i .u64 t564)), .br false, .br true] (fun e => ai (binary_take.c A1) (ai (n0 c2) (ai (binary_shape_inf.c A3) (ai (d0 c4) (ai c5 e))))) (by kernel_rfl)
   ·have h := si h; subst h
    exact pth Tryz.func124 [.r (.tu [.ag [.i .i64 bt556.1, .i .i64 bt556.2.1, .i .i64 bt556.2.2.1, .i .u64 bt556.2.2.2.1], .s (.b bt556.2.2.2.2.1), .s (.i .u64 bt556.2.2.2.2.2.1), .s (.i .i64 bt556.2.2.2.2.2.2)]), .br false, .r (.s (.i .u64 t564)), .br false, .br false] (fun e => ai (binary_take.c A1) (ai (n0 c2) (ai (binary_shape_inf.c A3) (ai (d0 c4) (ai (z0 c5) e))))) (by kernel_rfl)
 ·have h := si h; subst h
  exact pth Tryz.func124 [.r (.tu [.ag [.i .i64 bt556.1, .i .i64 bt556.2.1, .i .i64 bt556.2.2.1, .i .u64 bt556.2.2.2.1], .s (.b bt556.2.2.2.2.1), .s (.i .u64 bt556.2.2.2.2.2.1), .s (.i .i64 bt556.2.2.2.2.2.2)]), .br true] (fun e => ai (binary_take.c A1) (ai (n1 c2) e)) (by kernel_rfl)
def binary_shape_made.f (a0_0 : Int) (a0_1 : Int) (a0_2 : Int) (a0_3 : Int) (a1 : Bool) (a2 : Int) : Option (Int) := if a1 = true then ((binary_shape_sign.f a0_0 a0_1 a0_2 a0_3).bind fun t566 => (some (Go.bits .or .u64 a2 t566))) else (some a2)
theorem binary_shape_made.c {a0_0 : Int} {a0_1 : Int} {a0_2 : Int} {a0_3 : Int} {a1 : Bool} {a2 : Int} {r : Int} (h : binary_shape_made.f a0_0 a0_1 a0_2 a0_3 a1 a2 = some r) : Con Tryz.prog Gw 85 [.ag [.i .i64 a0_0, .i .i64 a0_1, .i .i64 a0_2, .i .u64 a0_3], .s (.b a1), .s (.i .u64 a2)] (· = .s (.i .u64 r)) := by
 unfold binary_shape_made.f at h
 rcases ite_e h with ⟨c1, h⟩ | ⟨c1, h⟩
 ·obtain ⟨t566, A2, h⟩ := bnd h
  have h := si h; subst h
  exact pth Tryz.func85 [.br true, .r (.s (.i .u64 t566))] (fun e => ai c1 (ai (binary_shape_sign.c A2) e)) (by kernel_rfl)
 ·have h := si h; subst h
  exact pth Tryz.func85 [.br false] (fun e => ai (z0 c1) e) (by kernel_rfl)
def binary_Rank.f (k : Nat) (a0 : Int) (a1 : Int) : Option (Int × Int) := (binary_rank.f k a0 a1).bind fun bt577 => (some (bt577.2.2.2.2.1, bt577.2.2.2.2.2))
theorem binary_Rank.mono : ∀ a0 a1 k, LeO (binary_Rank.f k a0 a1) (binary_Rank.f (k + 1) a0 a1) := by
 intro a0 a1 k
 unfold binary_Rank.f
 repeat' first
   | (with_reducible exact binary_rank.mono _ _ _)
   | (with_reducible exact LeO.refl _)
   | (with_reducible exact LeO.none _)
   | (with_reducible refine LeO.ite ?_ ?_)
   | (with_reducible refine LeO.bind ?_ (fun _ => ?_))
   | exact binary_rank.mono _ _ _
   | exact LeO.none _
   | refine LeO.ite ?_ ?_
   | refine LeO.bind ?_ (fun _ => ?_)
theorem binary_Rank.c {k : Nat} {a0 : Int} {a1 : Int} {r : Int × Int} (h : binary_Rank.f k a0 a1 = some r) : Con Tryz.prog Gw 66 [.s (.i .i64 a0), .s (.i .u64 a1)] (· = .tu [.s (.i .i64 r.1), .s (.i .i64 r.2)]) := by
 unfold binary_Rank.f at h
 obtain ⟨bt577, A1, h⟩ := bnd h
 have h := si h; subst h
 exact pth Tryz.func66 [.r (.tu [.ag [.i .i64 bt577.1, .i .i64 bt577.2.1, .i .i64 bt577.2.2.1, .i .u64 bt577.2.2.2.1], .s (.i .i64 bt577.2.2.2.2.1), .s (.i .i64 bt577.2.2.2.2.2)])] (fun e => ai (binary_rank.c A1) e) (by kernel_rfl)
def dyadic_twin.f (a0_0 : Bool) (l0_1 : List Int) (a0_2 : Int) : Option (Bool × List Int × Int) := (slices_Clone_uint64_uint64.f l0_1).bind fun t715 => (some (a0_0, t715, a0_2))
theorem dyadic_twin.c {a0_0 : Bool} {l0_1 : List Int} {a0_2 : Int} {r : Bool × List Int × Int} (h : dyadic_twin.f a0_0 l0_1 a0_2 = some r) : Con Tryz.prog Gw 147 [.ag [.b a0_0, .sl .u64 l0_1, .i .i64 a0_2]] (· = .ag [.b r.1, .sl .u64 r.2.1, .i .i64 r.2.2]) := by
 unfold dyadic_twin.f at h
 obtain ⟨t715, A1, h⟩ := bnd h
 have h := si h; subst h
 exact pth Tryz.func147 [.r (.s (.sl .u64 t715))] (fun e => ai (slices_Clone_uint64_uint64.c A1) e) (by kernel_rfl)
def dyadic_Neg.f (k : Nat) (a0_0 : Bool) (l0_1 : List Int) (a0_2 : Int) : Option (Bool × List Int × Int × Int) := (dyadic_Form.f k a0_0 l0_1 a0_2).bind fun t720 => (if t720 = true then ((dyadic_twin.f a0_0 l0_1 a0_2).bind fun bt721 => (if bt721.1 = true then (some (false, bt721.2.1, bt721.2.2, 0)) else ((dyadic_nought.f bt721.1 bt721.2.1 bt721.2.2).bind fun t726 => (some (!t726, bt721.2.1, bt721.2.2, 0))))) else (some (false, ([] : List Int), 0, 2)))
theorem dyadic_Neg.mono : ∀ a0 a1 a2 k, LeO (dyadic_Neg.f k a0 a1 a2) (dyadic_Neg.f (k + 1) a0 a1 a2) := by
 intro a0 a1 a2 k
 unfold dyadic_Neg.f
 repeat' first
   | (with_reducible exact dyadic_Form.mono _ _ _ _)
   | (with_reducible exact LeO.refl _)
   | (with_reducible exact LeO.none _)
   | (with_reducible refine LeO.ite ?_ ?_)
   | (with_reducible refine LeO.bind ?_ (fun _ => ?_))
   | exact dyadic_Form.mono _ _ _ _
   | exact LeO.none _
   | refine LeO.ite ?_ ?_
   | refine LeO.bind ?_ (fun _ => ?_)
theorem dyadic_Neg.c {k : Nat} {a0_0 : Bool} {l0_1 : List Int} {a0_2 : Int} {r : Bool × List Int × Int × Int} (h : dyadic_Neg.f k a0_0 l0_1 a0_2 = some r) : Con Tryz.prog Gw 218 [.ag [.b a0_0, .sl .u64 l0_1, .i .i64 a0_2]] (· = .tu [.ag [.b r.1, .sl .u64 r.2.1, .i .i64 r.2.2.1], .s (.i .i64 r.2.2.2)]) := by
 unfold dyadic_Neg.f at h
 obtain ⟨t720, A1, h⟩ := bnd h
 rcases ite_e h with ⟨c2, h⟩ | ⟨c2, h⟩
 ·obtain ⟨bt721, A3, h⟩ := bnd h
  rcases ite_e h with ⟨c4, h⟩ | ⟨c4, h⟩
  ·have h := si h; subst h
   exact pth Tryz.func218 [.r (.s (.b t720)), .br false, .r (.ag [.b bt721.1, .sl .u64 bt721.2.1, .i .i64 bt721.2.2]), .br false, .br false, .br false, .br false] (fun e => ai (dyadic_Form.c A1) (ai (nt1 c2) (ai (dyadic_twin.c A3) (ai (nt1 c4) (ai (nt1 c4) (ai (nt1 c4) (ai (nt1 c4) e))))))) (by kernel_rfl)
  ·obtain ⟨t726, A5, h⟩ := bnd h
   have h := si h; subst h
   exact pth Tryz.func218 [.r (.s (.b t720)), .br false, .r (.ag [.b bt721.1, .sl .u64 bt721.2.1, .i .i64 bt721.2.2]), .br true, .br true, .r (.s (.b t726)), .br true, .br true] (fun e => ai (dyadic_Form.c A1) (ai (nt1 c2) (ai (dyadic_twin.c A3) (ai (nt0 (z0 c4)) (ai (nt0 (z0 c4)) (ai (dyadic_nought.c A5) (ai (nt0 (z0 c4)) (ai (nt0 (z0 c4)) e)))))))) (by kernel_rfl)
 ·have h := si h; subst h
  exact pth Tryz.func218 [.r (.s (.b t720)), .br true] (fun e => ai (dyadic_Form.c A1) (ai (nt0 (z0 c2)) e)) (by kernel_rfl)
def num_Add.f (a0_0 : Bool) (l0_1 : List Int) (a1_0 : Bool) (l1_1 : List Int) : Option (Bool × List Int × Int) := (num_Form.f a0_0 l0_1).bind fun t1 => (if t1 = true then ((num_Form.f a1_0 l1_1).bind fun t2 => (if t2 = true then (if a0_0 = a1_0 then ((nat_Add.f l0_1 l1_1).bind fun bt3 => ((num_told.f a0_0 bt3.1 bt3.2).bind fun bt4 => (some (bt4.1, bt4.2.1, bt4.2.2)))) else ((nat_Cmp.f l0_1 l1_1).bind fun t5 => (if t5 < 0 then ((nat_Sub.f l1_1 l0_1).bind fun bt6 => ((num_told.f a1_0 bt6.1 bt6.2).bind fun bt7 => (some (bt7.1, bt7.2.1, bt7.2.2)))) else ((nat_Sub.f l0_1 l1_1).bind fun bt8 => ((num_told.f a0_0 bt8.1 bt8.2).bind fun bt9 => (some (bt9.1, bt9.2.1, bt9.2.2))))))) else (some (false, ([] : List Int), 2)))) else (some (false, ([] : List Int), 2)))
theorem num_Add.c {a0_0 : Bool} {l0_1 : List Int} {a1_0 : Bool} {l1_1 : List Int} {r : Bool × List Int × Int} (h : num_Add.f a0_0 l0_1 a1_0 l1_1 = some r) : Con Tryz.prog Gw 149 [.ag [.b a0_0, .sl .u64 l0_1], .ag [.b a1_0, .sl .u64 l1_1]] (· = .tu [.ag [.b r.1, .sl .u64 r.2.1], .s (.i .i64 r.2.2)]) := by
 unfold num_Add.f at h
 obtain ⟨t1, A1, h⟩ := bnd h
 rcases ite_e h with ⟨c2, h⟩ | ⟨c2, h⟩
 ·obtain ⟨t2, A3, h⟩ := bnd h
  rcases ite_e h with ⟨c4, h⟩ | ⟨c4, h⟩
  ·rcases ite_e h with ⟨c5, h⟩ | ⟨c5, h⟩
   ·obtain ⟨bt3, A6, h⟩ := bnd h
    obtain ⟨bt4, A7, h⟩ := bnd h
    have h := si h; subst h
    exact pth Tryz.func149 [.r (.s (.b t1)), .br false, .br false, .r (.s (.b t2)), .br false, .br false, .br false, .br true, .r (.tu [.s (.sl .u64 bt3.1), .s (.i .i64 bt3.2)]), .r (.tu [.ag [.b bt4.1, .sl .u64 bt4.2.1], .s (.i .i64 bt4.2.2)])] (fun e => ai (num_Form.c A1) (ai (nt1 c2) (ai (nt1 c2) (ai (num_Form.c A3) (ai (nt1 c2) (ai (nt1 c2) (ai (nt1 c4) (ai (q1 c5) (ai (nat_Add.c A6) (ai (num_told.c A7) e)))))))))) (by kernel_rfl)
   ·obtain ⟨t5, A8, h⟩ := bnd h
    rcases ite_e h with ⟨c9, h⟩ | ⟨c9, h⟩
    ·obtain ⟨bt6, A10, h⟩ := bnd h
     obtain ⟨bt7, A11, h⟩ := bnd h
     have h := si h; subst h
     exact pth Tryz.func149 [.r (.s (.b t1)), .br false, .br false, .r (.s (.b t2)), .br false, .br false, .br false, .br false, .r (.s (.i .i64 t5)), .br true, .r (.tu [.s (.sl .u64 bt6.1), .s (.i .i64 bt6.2)]), .r (.tu [.ag [.b bt7.1, .sl .u64 bt7.2.1], .s (.i .i64 bt7.2.2)])] (fun e => ai (num_Form.c A1) (ai (nt1 c2) (ai (nt1 c2) (ai (num_Form.c A3) (ai (nt1 c2) (ai (nt1 c2) (ai (nt1 c4) (ai (q0 c5) (ai (nat_Cmp.c A8) (ai (d1 c9) (ai (nat_Sub.c A10) (ai (num_told.c A11) e)))))))))))) (by kernel_rfl)
    ·obtain ⟨bt8, A12, h⟩ := bnd h
     obtain ⟨bt9, A13, h⟩ := bnd h
     have h := si h; subst h
     exact pth Tryz.func149 [.r (.s (.b t1)), .br false, .br false, .r (.s (.b t2)), .br false, .br false, .br false, .br false, .r (.s (.i .i64 t5)), .br false, .r (.tu [.s (.sl .u64 bt8.1), .s (.i .i64 bt8.2)]), .r (.tu [.ag [.b bt9.1, .sl .u64 bt9.2.1], .s (.i .i64 bt9.2.2)])] (fun e => ai (num_Form.c A1) (ai (nt1 c2) (ai (nt1 c2) (ai (num_Form.c A3) (ai (nt1 c2) (ai (nt1 c2) (ai (nt1 c4) (ai (q0 c5) (ai (nat_Cmp.c A8) (ai (d0 c9) (ai (nat_Sub.c A12) (ai (num_told.c A13) e)))))))))))) (by kernel_rfl)
  ·have h := si h; subst h
   exact pth Tryz.func149 [.r (.s (.b t1)), .br false, .br false, .r (.s (.b t2)), .br false, .br false, .br true] (fun e => ai (num_Form.c A1) (ai (nt1 c2) (ai (nt1 c2) (ai (num_Form.c A3) (ai (nt1 c2) (ai (nt1 c2) (ai (nt0 (z0 c4)) e))))))) (by kernel_rfl)
 ·have h := si h; subst h
  exact pth Tryz.func149 [.r (.s (.b t1)), .br true, .br true, .br true, .br true, .br true] (fun e => ai (num_Form.c A1) (ai (nt0 (z0 c2)) (ai (nt0 (z0 c2)) (ai (nt0 (z0 c2)) (ai (nt0 (z0 c2)) (ai tt e)))))) (by kernel_rfl)
def dyadic_Add.f (k : Nat) (a0_0 : Bool) (l0_1 : List Int) (a0_2 : Int) (a1_0 : Bool) (l1_1 : List Int) (a1_2 : Int) : Option (Bool × List Int × Int × Int) := (dyadic_Form.f k a0_0 l0_1 a0_2).bind fun t1 => (if t1 = true then ((dyadic_Form.f k a1_0 l1_1 a1_2).bind fun t2 => (if t2 = true then ((dyadic_nought.f a0_0 l0_1 a0_2).bind fun t3 => (if t3 = true then ((dyadic_twin.f a1_0 l1_1 a1_2).bind fun bt4 => (some (bt4.1, bt4.2.1, bt4.2.2, 0))) else ((dyadic_nought.f a1_0 l1_1 a1_2).bind fun t5 => (if t5 = true then ((dyadic_twin.f a0_0 l0_1 a0_2).bind fun bt6 => (some (bt6.1, bt6.2.1, bt6.2.2, 0))) else ((num_Shl.f a0_0 l0_1 (wrap64 (a0_2 - (mn a0_2 a1_2)))).bind fun bt7 => ((num_Shl.f a1_0 l1_1 (wrap64 (a1_2 - (mn a0_2 a1_2)))).bind fun bt8 => (if bt7.2.2 = 0 then (if bt8.2.2 = 0 then ((num_Add.f bt7.1 bt7.2.1 bt8.1 bt8.2.1).bind fun bt9 => (if bt9.2.2 = 0 then ((dyadic_Make.f k bt9.1 bt9.2.1 (mn a0_2 a1_2)).bind fun bt10 => (some (bt10.1, bt10.2.1, bt10.2.2.1, bt10.2.2.2))) else (some (false, ([] : List Int), 0, bt9.2.2)))) else (some (false, ([] : List Int), 0, 5))) else (some (false, ([] : List Int), 0, 5))))))))) else (some (false, ([] : List Int), 0, 2)))) else (some (false, ([] : List Int), 0, 2)))
theorem dyadic_Add.mono : ∀ a0 a1 a2 a3 a4 a5 k, LeO (dyadic_Add.f k a0 a1 a2 a3 a4 a5) (dyadic_Add.f (k + 1) a0 a1 a2 a3 a4 a5) := by
 intro a0 a1 a2 a3 a4 a5 k
 unfold dyadic_Add.f
 repeat' first
  | (with_reducible exact dyadic_Form.mono _ _ _ _)
  | (with_reducible exact dyadic_Make.mono _ _ _ _)
  | (with_reducible exact LeO.refl _)
  | (with_reducible exact LeO.none _)
  | (with_reducible refine LeO.ite ?_ ?_)
  | (with_reducible refine LeO.bind ?_ (fun _ => ?_))
theorem dyadic_Add.c {k : Nat} {a0_0 : Bool} {l0_1 : List Int} {a0_2 : Int} {a1_0 : Bool} {l1_1 : List Int} {a1_2 : Int} {r : Bool × List Int × Int × Int} (h : dyadic_Add.f k a0_0 l0_1 a0_2 a1_0 l1_1 a1_2 = some r) : Con Tryz.prog Gw 113 [.ag [.b a0_0, .sl .u64 l0_1, .i .i64 a0_2], .ag [.b a1_0, .sl .u64 l1_1, .i .i64 a1_2]] (· = .tu [.ag [.b r.1, .sl .u64 r.2.1, .i .i64 r.2.2.1], .s (.i .i64 r.2.2.2)]) := by
 unfold dyadic_Add.f at h
 obtain ⟨t1, A1, h⟩ := bnd h
 rcases ite_e h with ⟨c2, h⟩ | ⟨c2, h⟩
 ·obtain ⟨t2, A3, h⟩ := bnd h
  rcases ite_e h with ⟨c4, h⟩ | ⟨c4, h⟩
  ·obtain ⟨t3, A5, h⟩ := bnd h
   rcases ite_e h with ⟨c6, h⟩ | ⟨c6, h⟩
   ·obtain ⟨bt4, A7, h⟩ := bnd h
    have h := si h; subst h
    exact pth Tryz.func113 [.r (.s (.b t1)), .br false, .br false, .r (.s (.b t2)), .br false, .br false, .br false, .r (.s (.b t3)), .br true, .r (.ag [.b bt4.1, .sl .u64 bt4.2.1, .i .i64 bt4.2.2])] (fun e => ai (dyadic_Form.c A1) (ai (nt1 c2) (ai (nt1 c2) (ai (dyadic_Form.c A3) (ai (nt1 c2) (ai (nt1 c2) (ai (nt1 c4) (ai (dyadic_nought.c A5) (ai c6 (ai (dyadic_twin.c A7) e)))))))))) (by kernel_rfl)
   ·obtain ⟨t5, A8, h⟩ := bnd h
    rcases ite_e h with ⟨c9, h⟩ | ⟨c9, h⟩
    ·obtain ⟨bt6, A10, h⟩ := bnd h
     have h := si h; subst h
     exact pth Tryz.func113 [.r (.s (.b t1)), .br false, .br false, .r (.s (.b t2)), .br false, .br false, .br false, .r (.s (.b t3)), .br false, .r (.s (.b t5)), .br true, .r (.ag [.b bt6.1, .sl .u64 bt6.2.1, .i .i64 bt6.2.2])] (fun e => ai (dyadic_Form.c A1) (ai (nt1 c2) (ai (nt1 c2) (ai (dyadic_Form.c A3) (ai (nt1 c2) (ai (nt1 c2) (ai (nt1 c4) (ai (dyadic_nought.c A5) (ai (z0 c6) (ai (dyadic_nought.c A8) (ai c9 (ai (dyadic_twin.c A10) e)))))))))))) (by kernel_rfl)
    ·obtain ⟨bt7, A11, h⟩ := bnd h
     obtain ⟨bt8, A12, h⟩ := bnd h
     rcases ite_e h with ⟨c13, h⟩ | ⟨c13, h⟩
     ·rcases ite_e h with ⟨c14, h⟩ | ⟨c14, h⟩
      ·obtain ⟨bt9, A15, h⟩ := bnd h
       rcases ite_e h with ⟨c16, h⟩ | ⟨c16, h⟩
       ·obtain ⟨bt10, A17, h⟩ := bnd h
        have h := si h; subst h
        exact pth Tryz.func113 [.r (.s (.b t1)), .br false, .br false, .r (.s (.b t2)), .br false, .br false, .br false, .r (.s (.b t3)), .br false, .r (.s (.b t5)), .br false, .r (.tu [.ag [.b bt7.1, .sl .u64 bt7.2.1], .s (.i .i64 bt7.2.2)]), .r (.tu [.ag [.b bt8.1, .sl .u64 bt8.2.1], .s (.i .i64 bt8.2.2)]), .br false, .br false, .br false, .br false, .r (.tu [.ag [.b bt9.1, .sl .u64 bt9.2.1], .s (.i .i64 bt9.2.2)]), .br false, .r (.tu [.ag [.b bt10.1, .sl .u64 bt10.2.1, .i .i64 bt10.2.2.1], .s (.i .i64 bt10.2.2.2)])] (fun e => ai (dyadic_Form.c A1) (ai (nt1 c2) (ai (nt1 c2) (ai (dyadic_Form.c A3) (ai (nt1 c2) (ai (nt1 c2) (ai (nt1 c4) (ai (dyadic_nought.c A5) (ai (z0 c6) (ai (dyadic_nought.c A8) (ai (z0 c9) (ai (num_Shl.c A11) (ai (num_Shl.c A12) (ai (n0 c13) (ai (n0 c13) (ai (n0 c13) (ai (n0 c14) (ai (num_Add.c A15) (ai (n0 c16) (ai (dyadic_Make.c A17) e)))))))))))))))))))) (by kernel_rfl)
       ·have h := si h; subst h
        exact pth Tryz.func113 [.r (.s (.b t1)), .br false, .br false, .r (.s (.b t2)), .br false, .br false, .br false, .r (.s (.b t3)), .br false, .r (.s (.b t5)), .br false, .r (.tu [.ag [.b bt7.1, .sl .u64 bt7.2.1], .s (.i .i64 bt7.2.2)]), .r (.tu [.ag [.b bt8.1, .sl .u64 bt8.2.1], .s (.i .i64 bt8.2.2)]), .br false, .br false, .br false, .br false, .r (.tu [.ag [.b bt9.1, .sl .u64 bt9.2.1], .s (.i .i64 bt9.2.2)]), .br true] (fun e => ai (dyadic_Form.c A1) (ai (nt1 c2) (ai (nt1 c2) (ai (dyadic_Form.c A3) (ai (nt1 c2) (ai (nt1 c2) (ai (nt1 c4) (ai (dyadic_nought.c A5) (ai (z0 c6) (ai (dyadic_nought.c A8) (ai (z0 c9) (ai (num_Shl.c A11) (ai (num_Shl.c A12) (ai (n0 c13) (ai (n0 c13) (ai (n0 c13) (ai (n0 c14) (ai (num_Add.c A15) (ai (n1 c16) e))))))))))))))))))) (by kernel_rfl)
      ·have h := si h; subst h
       exact pth Tryz.func113 [.r (.s (.b t1)), .br false, .br false, .r (.s (.b t2)), .br false, .br false, .br false, .r (.s (.b t3)), .br false, .r (.s (.b t5)), .br false, .r (.tu [.ag [.b bt7.1, .sl .u64 bt7.2.1], .s (.i .i64 bt7.2.2)]), .r (.tu [.ag [.b bt8.1, .sl .u64 bt8.2.1], .s (.i .i64 bt8.2.2)]), .br false, .br false, .br false, .br true] (fun e => ai (dyadic_Form.c A1) (ai (nt1 c2) (ai (nt1 c2) (ai (dyadic_Form.c A3) (ai (nt1 c2) (ai (nt1 c2) (ai (nt1 c4) (ai (dyadic_nought.c A5) (ai (z0 c6) (ai (dyadic_nought.c A8) (ai (z0 c9) (ai (num_Shl.c A11) (ai (num_Shl.c A12) (ai (n0 c13) (ai (n0 c13) (ai (n0 c13) (ai (n1 c14) e))))))))))))))))) (by kernel_rfl)
     ·have h := si h; subst h
      exact pth Tryz.func113 [.r (.s (.b t1)), .br false, .br false, .r (.s (.b t2)), .br false, .br false, .br false, .r (.s (.b t3)), .br false, .r (.s (.b t5)), .br false, .r (.tu [.ag [.b bt7.1, .sl .u64 bt7.2.1], .s (.i .i64 bt7.2.2)]), .r (.tu [.ag [.b bt8.1, .sl .u64 bt8.2.1], .s (.i .i64 bt8.2.2)]), .br true, .br true, .br true, .br true] (fun e => ai (dyadic_Form.c A1) (ai (nt1 c2) (ai (nt1 c2) (ai (dyadic_Form.c A3) (ai (nt1 c2) (ai (nt1 c2) (ai (nt1 c4) (ai (dyadic_nought.c A5) (ai (z0 c6) (ai (dyadic_nought.c A8) (ai (z0 c9) (ai (num_Shl.c A11) (ai (num_Shl.c A12) (ai (n1 c13) (ai (n1 c13) (ai (n1 c13) (ai tt e))))))))))))))))) (by kernel_rfl)
  ·have h := si h; subst h
   exact pth Tryz.func113 [.r (.s (.b t1)), .br false, .br false, .r (.s (.b t2)), .br false, .br false, .br true] (fun e => ai (dyadic_Form.c A1) (ai (nt1 c2) (ai (nt1 c2) (ai (dyadic_Form.c A3) (ai (nt1 c2) (ai (nt1 c2) (ai (nt0 (z0 c4)) e))))))) (by kernel_rfl)
 ·have h := si h; subst h
  exact pth Tryz.func113 [.r (.s (.b t1)), .br true, .br true, .br true, .br true, .br true] (fun e => ai (dyadic_Form.c A1) (ai (nt0 (z0 c2)) (ai (nt0 (z0 c2)) (ai (nt0 (z0 c2)) (ai (nt0 (z0 c2)) (ai tt e)))))) (by kernel_rfl)
def binary_Value.f (k : Nat) (a0 : Int) (a1 : Int) : Option (Bool × List Int × Int × Int) := (binary_finite.f k a0 a1).bind fun bt1 => (if bt1.2.2.2.2.2.2 = 0 then ((binary_shape_parts.f bt1.1 bt1.2.1 bt1.2.2.1 bt1.2.2.2.1 bt1.2.2.2.2.2.1).bind fun bt2 => ((binary_number.f k bt1.2.2.2.2.1 bt2.1 bt2.2).bind fun bt3 => (some (bt3.1, bt3.2.1, bt3.2.2.1, bt3.2.2.2)))) else (some (false, ([] : List Int), 0, bt1.2.2.2.2.2.2)))
theorem binary_Value.mono : ∀ a0 a1 k, LeO (binary_Value.f k a0 a1) (binary_Value.f (k + 1) a0 a1) := by
 intro a0 a1 k
 unfold binary_Value.f
 repeat' first
  | (with_reducible exact binary_finite.mono _ _ _)
  | (with_reducible exact binary_number.mono _ _ _ _)
  | (with_reducible exact LeO.refl _)
  | (with_reducible exact LeO.none _)
  | (with_reducible refine LeO.ite ?_ ?_)
  | (with_reducible refine LeO.bind ?_ (fun _ => ?_))
theorem binary_Value.c {k : Nat} {a0 : Int} {a1 : Int} {r : Bool × List Int × Int × Int} (h : binary_Value.f k a0 a1 = some r) : Con Tryz.prog Gw 93 [.s (.i .i64 a0), .s (.i .u64 a1)] (· = .tu [.ag [.b r.1, .sl .u64 r.2.1, .i .i64 r.2.2.1], .s (.i .i64 r.2.2.2)]) := by
 unfold binary_Value.f at h
 obtain ⟨bt1, A1, h⟩ := bnd h
 rcases ite_e h with ⟨c2, h⟩ | ⟨c2, h⟩
 ·obtain ⟨bt2, A3, h⟩ := bnd h
  obtain ⟨bt3, A4, h⟩ := bnd h
  have h := si h; subst h
  exact pth Tryz.func93 [.r (.tu [.ag [.i .i64 bt1.1, .i .i64 bt1.2.1, .i .i64 bt1.2.2.1, .i .u64 bt1.2.2.2.1], .s (.b bt1.2.2.2.2.1), .s (.i .u64 bt1.2.2.2.2.2.1), .s (.i .i64 bt1.2.2.2.2.2.2)]), .br false, .r (.tu [.s (.i .u64 bt2.1), .s (.i .i64 bt2.2)]), .r (.tu [.ag [.b bt3.1, .sl .u64 bt3.2.1, .i .i64 bt3.2.2.1], .s (.i .i64 bt3.2.2.2)])] (fun e => ai (binary_finite.c A1) (ai (n0 c2) (ai (binary_shape_parts.c A3) (ai (binary_number.c A4) e)))) (by kernel_rfl)
 ·have h := si h; subst h
  exact pth Tryz.func93 [.r (.tu [.ag [.i .i64 bt1.1, .i .i64 bt1.2.1, .i .i64 bt1.2.2.1, .i .u64 bt1.2.2.2.1], .s (.b bt1.2.2.2.2.1), .s (.i .u64 bt1.2.2.2.2.2.1), .s (.i .i64 bt1.2.2.2.2.2.2)]), .br true] (fun e => ai (binary_finite.c A1) (ai (n1 c2) e)) (by kernel_rfl)
def soft_number_below.f (a0_0 : Bool) (l0_1 : List Int) (a0_2 : Int) : Option (Bool) := some a0_0
theorem soft_number_below.c {a0_0 : Bool} {l0_1 : List Int} {a0_2 : Int} {r : Bool} (h : soft_number_below.f a0_0 l0_1 a0_2 = some r) : Con Tryz.prog Gw 62 [.ag [.b a0_0, .sl .u64 l0_1, .i .i64 a0_2]] (· = .s (.b r)) := by
 unfold soft_number_below.f at h
 have h := si h; subst h
 exact pth Tryz.func62 [] (fun e => e) (by kernel_rfl)
def soft_number_turned.f (k : Nat) (a0_0 : Bool) (l0_1 : List Int) (a0_2 : Int) : Option (Opd) := (dyadic_Neg.f k a0_0 l0_1 a0_2).bind fun bt1 => (some (Opd.num bt1.1 bt1.2.1 bt1.2.2.1))
theorem soft_number_turned.mono : ∀ a0 a1 a2 k, LeO (soft_number_turned.f k a0 a1 a2) (soft_number_turned.f (k + 1) a0 a1 a2) := by
 intro a0 a1 a2 k
 unfold soft_number_turned.f
 repeat' first
  | (with_reducible exact dyadic_Neg.mono _ _ _ _)
  | (with_reducible exact LeO.refl _)
  | (with_reducible exact LeO.none _)
  | (with_reducible refine LeO.ite ?_ ?_)
  | (with_reducible refine LeO.bind ?_ (fun _ => ?_))
theorem soft_number_turned.c {k : Nat} {a0_0 : Bool} {l0_1 : List Int} {a0_2 : Int} {r : Opd} (h : soft_number_turned.f k a0_0 l0_1 a0_2 = some r) : Con Tryz.prog Gw 217 [.ag [.b a0_0, .sl .u64 l0_1, .i .i64 a0_2]] (· = .s (.ifc (opT r) (opL r))) := by
 unfold soft_number_turned.f at h
 obtain ⟨bt1, A1, h⟩ := bnd h
 have h := si h; subst h
 exact pth Tryz.func217 [.r (.tu [.ag [.b bt1.1, .sl .u64 bt1.2.1, .i .i64 bt1.2.2.1], .s (.i .i64 bt1.2.2.2)])] (fun e => ai (dyadic_Neg.c A1) e) (by kernel_rfl)
def soft_nought_below.f (a0_0 : Bool) : Option (Bool) := some a0_0
theorem soft_nought_below.c {a0_0 : Bool} {r : Bool} (h : soft_nought_below.f a0_0 = some r) : Con Tryz.prog Gw 219 [.ag [.b a0_0]] (· = .s (.b r)) := by
 unfold soft_nought_below.f at h
 have h := si h; subst h
 exact pth Tryz.func219 [] (fun e => e) (by kernel_rfl)
def soft_nought_turned.f (a0_0 : Bool) : Option (Opd) := some (Opd.nou (!a0_0))
theorem soft_nought_turned.c {a0_0 : Bool} {r : Opd} (h : soft_nought_turned.f a0_0 = some r) : Con Tryz.prog Gw 220 [.ag [.b a0_0]] (· = .s (.ifc (opT r) (opL r))) := by
 unfold soft_nought_turned.f at h
 have h := si h; subst h
 exact pth Tryz.func220 [] (fun e => e) (by kernel_rfl)
def soft_infinite_below.f (a0_0 : Bool) : Option (Bool) := some a0_0
theorem soft_infinite_below.c {a0_0 : Bool} {r : Bool} (h : soft_infinite_below.f a0_0 = some r) : Con Tryz.prog Gw 221 [.ag [.b a0_0]] (· = .s (.b r)) := by
 unfold soft_infinite_below.f at h
 have h := si h; subst h
 exact pth Tryz.func221 [] (fun e => e) (by kernel_rfl)
def soft_infinite_turned.f (a0_0 : Bool) : Option (Opd) := some (Opd.inf (!a0_0))
theorem soft_infinite_turned.c {a0_0 : Bool} {r : Opd} (h : soft_infinite_turned.f a0_0 = some r) : Con Tryz.prog Gw 222 [.ag [.b a0_0]] (· = .s (.ifc (opT r) (opL r))) := by
 unfold soft_infinite_turned.f at h
 have h := si h; subst h
 exact pth Tryz.func222 [] (fun e => e) (by kernel_rfl)
def soft_nan_below.f  : Option (Bool) := some false
theorem soft_nan_below.c  {r : Bool} (h : soft_nan_below.f = some r) : Con Tryz.prog Gw 223 [.ag []] (· = .s (.b r)) := by
 unfold soft_nan_below.f at h
 have h := si h; subst h
 exact pth Tryz.func223 [] (fun e => e) (by kernel_rfl)
def soft_nan_turned.f  : Option (Opd) := some Opd.nan
theorem soft_nan_turned.c  {r : Opd} (h : soft_nan_turned.f = some r) : Con Tryz.prog Gw 224 [.ag []] (· = .s (.ifc (opT r) (opL r))) := by
 unfold soft_nan_turned.f at h
 have h := si h; subst h
 exact pth Tryz.func224 [] (fun e => e) (by kernel_rfl)
def soft_signBit.f (a0 : Int) : Option (Int) := if 0 ≤ wrap64 (a0 - 1) then (some (shl .u64 1 (wrap64 (a0 - 1)))) else (none)
theorem soft_signBit.c {a0 : Int} {r : Int} (h : soft_signBit.f a0 = some r) : Con Tryz.prog Gw 122 [.s (.i .i64 a0)] (· = .s (.i .u64 r)) := by
 unfold soft_signBit.f at h
 rcases ite_e h with ⟨c1, h⟩ | ⟨c1, h⟩
 ·have h := si h; subst h
  exact pth Tryz.func122 [] (fun e => ai c1 e) (by kernel_rfl)
 ·cases h
def soft_read.f (k : Nat) (a0 : Int) (a1 : Int) : Option (Opd × Int) := (binary_ClassOf.f k a0 a1).bind fun bt1 => (if bt1.2 = 0 then ((soft_signBit.f a0).bind fun t2 => (if bt1.1 = 4 then (some (Opd.nan, 0)) else (if bt1.1 = 3 then (some (Opd.inf ((Go.bits .and .u64 a1 t2) != 0), 0)) else (if bt1.1 = 0 then (some (Opd.nou ((Go.bits .and .u64 a1 t2) != 0), 0)) else ((binary_Value.f k a0 a1).bind fun bt3 => (some (Opd.num bt3.1 bt3.2.1 bt3.2.2.1, 0))))))) else (some (Opd.nan, bt1.2)))
theorem soft_read.mono : ∀ a0 a1 k, LeO (soft_read.f k a0 a1) (soft_read.f (k + 1) a0 a1) := by
 intro a0 a1 k
 unfold soft_read.f
 repeat' first
  | (with_reducible exact binary_ClassOf.mono _ _ _)
  | (with_reducible exact binary_Value.mono _ _ _)
  | (with_reducible exact LeO.refl _)
  | (with_reducible exact LeO.none _)
  | (with_reducible refine LeO.ite ?_ ?_)
  | (with_reducible refine LeO.bind ?_ (fun _ => ?_))
theorem soft_read.c {k : Nat} {a0 : Int} {a1 : Int} {r : Opd × Int} (h : soft_read.f k a0 a1 = some r) : Con Tryz.prog Gw 61 [.s (.i .i64 a0), .s (.i .u64 a1)] (· = .tu [.s (.ifc (opT r.1) (opL r.1)), .s (.i .i64 r.2)]) := by
 unfold soft_read.f at h
 obtain ⟨bt1, A1, h⟩ := bnd h
 rcases ite_e h with ⟨c2, h⟩ | ⟨c2, h⟩
 ·obtain ⟨t2, A3, h⟩ := bnd h
  rcases ite_e h with ⟨c4, h⟩ | ⟨c4, h⟩
  ·have h := si h; subst h
   exact pth Tryz.func61 [.r (.tu [.s (.i .i64 bt1.1), .s (.i .i64 bt1.2)]), .br false, .r (.s (.i .u64 t2)), .br true] (fun e => ai (binary_ClassOf.c A1) (ai (n0 c2) (ai (soft_signBit.c A3) (ai (q1 c4) e)))) (by kernel_rfl)
  ·rcases ite_e h with ⟨c5, h⟩ | ⟨c5, h⟩
   ·have h := si h; subst h
    exact pth Tryz.func61 [.r (.tu [.s (.i .i64 bt1.1), .s (.i .i64 bt1.2)]), .br false, .r (.s (.i .u64 t2)), .br false, .br true] (fun e => ai (binary_ClassOf.c A1) (ai (n0 c2) (ai (soft_signBit.c A3) (ai (q0 c4) (ai (q1 c5) e))))) (by kernel_rfl)
   ·rcases ite_e h with ⟨c6, h⟩ | ⟨c6, h⟩
    ·have h := si h; subst h
     exact pth Tryz.func61 [.r (.tu [.s (.i .i64 bt1.1), .s (.i .i64 bt1.2)]), .br false, .r (.s (.i .u64 t2)), .br false, .br false, .br true] (fun e => ai (binary_ClassOf.c A1) (ai (n0 c2) (ai (soft_signBit.c A3) (ai (q0 c4) (ai (q0 c5) (ai (q1 c6) e)))))) (by kernel_rfl)
    ·obtain ⟨bt3, A7, h⟩ := bnd h
     have h := si h; subst h
     exact pth Tryz.func61 [.r (.tu [.s (.i .i64 bt1.1), .s (.i .i64 bt1.2)]), .br false, .r (.s (.i .u64 t2)), .br false, .br false, .br false, .r (.tu [.ag [.b bt3.1, .sl .u64 bt3.2.1, .i .i64 bt3.2.2.1], .s (.i .i64 bt3.2.2.2)])] (fun e => ai (binary_ClassOf.c A1) (ai (n0 c2) (ai (soft_signBit.c A3) (ai (q0 c4) (ai (q0 c5) (ai (q0 c6) (ai (binary_Value.c A7) e))))))) (by kernel_rfl)
 ·have h := si h; subst h
  exact pth Tryz.func61 [.r (.tu [.s (.i .i64 bt1.1), .s (.i .i64 bt1.2)]), .br true] (fun e => ai (binary_ClassOf.c A1) (ai (n1 c2) e)) (by kernel_rfl)
def soft_pair.f (k : Nat) (a0 : Int) (a1 : Int) (a2 : Int) : Option (Opd × Opd × Int) := (soft_read.f k a0 a1).bind fun bt1 => ((soft_read.f k a0 a2).bind fun bt2 => (if bt1.2 = 0 then (some (bt1.1, bt2.1, bt2.2)) else (if bt2.2 = 0 then (some (bt1.1, bt2.1, bt1.2)) else (if bt2.2 < bt1.2 then (some (bt1.1, bt2.1, bt2.2)) else (some (bt1.1, bt2.1, bt1.2))))))
theorem soft_pair.mono : ∀ a0 a1 a2 k, LeO (soft_pair.f k a0 a1 a2) (soft_pair.f (k + 1) a0 a1 a2) := by
 intro a0 a1 a2 k
 unfold soft_pair.f
 repeat' first
  | (with_reducible exact soft_read.mono _ _ _)
  | (with_reducible exact LeO.refl _)
  | (with_reducible exact LeO.none _)
  | (with_reducible refine LeO.ite ?_ ?_)
  | (with_reducible refine LeO.bind ?_ (fun _ => ?_))
theorem soft_pair.c {k : Nat} {a0 : Int} {a1 : Int} {a2 : Int} {r : Opd × Opd × Int} (h : soft_pair.f k a0 a1 a2 = some r) : Con Tryz.prog Gw 55 [.s (.i .i64 a0), .s (.i .u64 a1), .s (.i .u64 a2)] (· = .tu [.s (.ifc (opT r.1) (opL r.1)), .s (.ifc (opT r.2.1) (opL r.2.1)), .s (.i .i64 r.2.2)]) := by
 unfold soft_pair.f at h
 obtain ⟨bt1, A1, h⟩ := bnd h
 obtain ⟨bt2, A2, h⟩ := bnd h
 rcases ite_e h with ⟨c3, h⟩ | ⟨c3, h⟩
 ·have h := si h; subst h
  exact pth Tryz.func55 [.r (.tu [.s (.ifc (opT bt1.1) (opL bt1.1)), .s (.i .i64 bt1.2)]), .r (.tu [.s (.ifc (opT bt2.1) (opL bt2.1)), .s (.i .i64 bt2.2)]), .br true, .br true, .br true, .br true, .br true, .br true] (fun e => ai (soft_read.c A1) (ai (soft_read.c A2) (ai (q1 c3) (ai (q1 c3) (ai (q1 c3) (ai (q1 c3) (ai (q1 c3) (ai tt e)))))))) (by kernel_rfl)
 ·rcases ite_e h with ⟨c4, h⟩ | ⟨c4, h⟩
  ·have h := si h; subst h
   exact pth Tryz.func55 [.r (.tu [.s (.ifc (opT bt1.1) (opL bt1.1)), .s (.i .i64 bt1.2)]), .r (.tu [.s (.ifc (opT bt2.1) (opL bt2.1)), .s (.i .i64 bt2.2)]), .br false, .br false, .br false, .br false, .br false, .br false, .br false, .br false, .br false, .br false] (fun e => ai (soft_read.c A1) (ai (soft_read.c A2) (ai (q0 c3) (ai (q0 c3) (ai (q0 c3) (ai (n0 c4) (ai (n0 c4) (ai (n0 c4) (ai (q0 c3) (ai (n0 c4) (ai (q0 c3) (ai ff e)))))))))))) (by kernel_rfl)
  ·rcases ite_e h with ⟨c5, h⟩ | ⟨c5, h⟩
   ·have h := si h; subst h
    exact pth Tryz.func55 [.r (.tu [.s (.ifc (opT bt1.1) (opL bt1.1)), .s (.i .i64 bt1.2)]), .r (.tu [.s (.ifc (opT bt2.1) (opL bt2.1)), .s (.i .i64 bt2.2)]), .br false, .br false, .br false, .br true, .br true, .br true, .br false, .br true, .br false, .br true] (fun e => ai (soft_read.c A1) (ai (soft_read.c A2) (ai (q0 c3) (ai (q0 c3) (ai (q0 c3) (ai (n1 c4) (ai (n1 c4) (ai (n1 c4) (ai (q0 c3) (ai (n1 c4) (ai (q0 c3) (ai (d1 c5) e)))))))))))) (by kernel_rfl)
   ·have h := si h; subst h
    exact pth Tryz.func55 [.r (.tu [.s (.ifc (opT bt1.1) (opL bt1.1)), .s (.i .i64 bt1.2)]), .r (.tu [.s (.ifc (opT bt2.1) (opL bt2.1)), .s (.i .i64 bt2.2)]), .br false, .br false, .br false, .br true, .br true, .br true, .br false, .br true, .br false, .br false] (fun e => ai (soft_read.c A1) (ai (soft_read.c A2) (ai (q0 c3) (ai (q0 c3) (ai (q0 c3) (ai (n1 c4) (ai (n1 c4) (ai (n1 c4) (ai (q0 c3) (ai (n1 c4) (ai (q0 c3) (ai (d0 c5) e)))))))))))) (by kernel_rfl)
def soft_signed.f (a0 : Int) (a1 : Bool) (a2 : Int) : Option (Int) := if a1 = true then ((soft_signBit.f a0).bind fun t1 => (some (Go.bits .or .u64 a2 t1))) else (some a2)
theorem soft_signed.c {a0 : Int} {a1 : Bool} {a2 : Int} {r : Int} (h : soft_signed.f a0 a1 a2 = some r) : Con Tryz.prog Gw 112 [.s (.i .i64 a0), .s (.b a1), .s (.i .u64 a2)] (· = .s (.i .u64 r)) := by
 unfold soft_signed.f at h
 rcases ite_e h with ⟨c1, h⟩ | ⟨c1, h⟩
 ·obtain ⟨t1, A2, h⟩ := bnd h
  have h := si h; subst h
  exact pth Tryz.func112 [.br true, .r (.s (.i .u64 t1))] (fun e => ai c1 (ai (soft_signBit.c A2) e)) (by kernel_rfl)
 ·have h := si h; subst h
  exact pth Tryz.func112 [.br false] (fun e => ai (z0 c1) e) (by kernel_rfl)
end Go.Proofs.YtokoadgahflafaaGreatDoor.PLib
