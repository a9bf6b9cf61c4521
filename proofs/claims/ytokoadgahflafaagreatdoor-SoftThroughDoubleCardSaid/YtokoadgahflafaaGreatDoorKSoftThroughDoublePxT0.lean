/- Functions of the program as plain Lean functions (definitions as the print's), and that the machine's calls do what they do (contracts 'X.c', by Px). Condition: math/bits' table is laid. -/
import Derived.Test.YtokoadgahflafaaGreatDoorKSoftThroughDoublePxL0
import Derived.Test.YtokoadgahflafaaGreatDoorKSoftThroughDoublePxL1
import Derived.Test.YtokoadgahflafaaGreatDoorKSoftThroughDoublePxL2
import Derived.Test.YtokoadgahflafaaGreatDoorKSoftThroughDoublePxL3
import Derived.Test.YtokoadgahflafaaGreatDoorKSoftThroughDoublePxL4
import Derived.Test.YtokoadgahflafaaGreatDoorKSoftThroughDoublePxOp
import Derived.Test.YtokoadgahflafaaGreatDoorKSoftThroughDoubleGM
set_option linter.unusedVariables false
namespace Go.Proofs.YtokoadgahflafaaGreatDoor.PLib
open Go Go.RowKit Go.Proofs.YtokoadgahflafaaGreatDoorW.PrintWords Go.Proofs.YtokoadgahflafaaGreatDoorW.PrintMore Go.Proofs.YtokoadgahflafaaGreatDoor.Given Go.Proofs.YtokoadgahflafaaGreatDoor.Px
def binary_Join.f (a0 : Int) (a1 : Bool) (a2 : Int) (a3 : Int) : Option (Int × Int) := (binary_shapeOf.f a0).bind fun bt1 => (if (bt1.1 == 0 && (bt1.2.1 == 0 && (bt1.2.2.1 == 0 && (bt1.2.2.2 == 0)))) = true then (some (0, 1)) else (if a2 = 0 then ((binary_shape_made.f bt1.1 bt1.2.1 bt1.2.2.1 bt1.2.2.2 a1 0).bind fun t2 => (some (t2, 0))) else (if a3 < wrap64 (bt1.2.2.1 - 64) then (some (0, 5)) else (if a3 > wrap64 (bt1.2.2.1 + 4096) then (some (0, 5)) else ((bits_TrailingZeros64.f a2).bind fun t3 => (if 0 ≤ t3 then ((bits_Len64.f (shr .u64 a2 t3)).bind fun t4 => (if t4 > bt1.2.1 then (some (0, 5)) else (if wrap64 (a3 + t3) < bt1.2.2.1 then (some (0, 5)) else (if 0 ≤ mn (wrap64 (bt1.2.1 - t4)) (wrap64 ((wrap64 (a3 + t3)) - bt1.2.2.1)) then ((binary_shape_hidden.f bt1.1 bt1.2.1 bt1.2.2.1 bt1.2.2.2).bind fun t5 => (if shl .u64 (shr .u64 a2 t3) (mn (wrap64 (bt1.2.1 - t4)) (wrap64 ((wrap64 (a3 + t3)) - bt1.2.2.1))) < t5 then ((binary_shape_made.f bt1.1 bt1.2.1 bt1.2.2.1 bt1.2.2.2 a1 (shl .u64 (shr .u64 a2 t3) (mn (wrap64 (bt1.2.1 - t4)) (wrap64 ((wrap64 (a3 + t3)) - bt1.2.2.1))))).bind fun t6 => (some (t6, 0))) else ((binary_shape_hidden.f bt1.1 bt1.2.1 bt1.2.2.1 bt1.2.2.2).bind fun t7 => ((binary_shape_inf.f bt1.1 bt1.2.1 bt1.2.2.1 bt1.2.2.2).bind fun t8 => (if IntKind.u64.wrap ((IntKind.u64.wrap ((IntKind.u64.wrap ((IntKind.u64.wrap (wrap64 ((wrap64 ((wrap64 ((wrap64 (a3 + t3)) - (mn (wrap64 (bt1.2.1 - t4)) (wrap64 ((wrap64 (a3 + t3)) - bt1.2.2.1))))) - bt1.2.2.1)) + 1))) - 1)) * t7)) + (shl .u64 (shr .u64 a2 t3) (mn (wrap64 (bt1.2.1 - t4)) (wrap64 ((wrap64 (a3 + t3)) - bt1.2.2.1))))) ≥ t8 then (some (0, 5)) else ((binary_shape_made.f bt1.1 bt1.2.1 bt1.2.2.1 bt1.2.2.2 a1 (IntKind.u64.wrap ((IntKind.u64.wrap ((IntKind.u64.wrap ((IntKind.u64.wrap (wrap64 ((wrap64 ((wrap64 ((wrap64 (a3 + t3)) - (mn (wrap64 (bt1.2.1 - t4)) (wrap64 ((wrap64 (a3 + t3)) - bt1.2.2.1))))) - bt1.2.2.1)) + 1))) - 1)) * t7)) + (shl .u64 (shr .u64 a2 t3) (mn (wrap64 (bt1.2.1 - t4)) (wrap64 ((wrap64 (a3 + t3)) - bt1.2.2.1))))))).bind fun t9 => (some (t9, 0)))))))) else (none))))) else (none)))))))
theorem binary_Join.c {a0 : Int} {a1 : Bool} {a2 : Int} {a3 : Int} {r : Int × Int} (h : binary_Join.f a0 a1 a2 a3 = some r) : Con Tryz.prog Gw 88 [.s (.i .i64 a0), .s (.b a1), .s (.i .u64 a2), .s (.i .i64 a3)] (· = .tu [.s (.i .u64 r.1), .s (.i .i64 r.2)]) := by
 unfold binary_Join.f at h
 obtain ⟨bt1, A1, h⟩ := bnd h
 rcases ite_e h with ⟨c2, h⟩ | ⟨c2, h⟩
 ·have h := si h; subst h
  exact pth Tryz.func88 [.r (.ag [.i .i64 bt1.1, .i .i64 bt1.2.1, .i .i64 bt1.2.2.1, .i .u64 bt1.2.2.2]), .br true] (fun e => ai (binary_shapeOf.c A1) (ai c2 e)) (by kernel_rfl)
 ·rcases ite_e h with ⟨c3, h⟩ | ⟨c3, h⟩
  ·obtain ⟨t2, A4, h⟩ := bnd h
   have h := si h; subst h
   exact pth Tryz.func88 [.r (.ag [.i .i64 bt1.1, .i .i64 bt1.2.1, .i .i64 bt1.2.2.1, .i .u64 bt1.2.2.2]), .br false, .br true, .r (.s (.i .u64 t2))] (fun e => ai (binary_shapeOf.c A1) (ai (z0 c2) (ai (q1 c3) (ai (binary_shape_made.c A4) e)))) (by kernel_rfl)
  ·rcases ite_e h with ⟨c5, h⟩ | ⟨c5, h⟩
   ·have h := si h; subst h
    exact pth Tryz.func88 [.r (.ag [.i .i64 bt1.1, .i .i64 bt1.2.1, .i .i64 bt1.2.2.1, .i .u64 bt1.2.2.2]), .br false, .br false, .br true, .br true, .br true, .br true, .br true, .br true, .br true] (fun e => ai (binary_shapeOf.c A1) (ai (z0 c2) (ai (q0 c3) (ai (d1 c5) (ai (d1 c5) (ai (d1 c5) (ai (d1 c5) (ai (d1 c5) (ai (d1 c5) (ai tt e)))))))))) (by kernel_rfl)
   ·rcases ite_e h with ⟨c6, h⟩ | ⟨c6, h⟩
    ·have h := si h; subst h
     exact pth Tryz.func88 [.r (.ag [.i .i64 bt1.1, .i .i64 bt1.2.1, .i .i64 bt1.2.2.1, .i .u64 bt1.2.2.2]), .br false, .br false, .br false, .br false, .br false, .br false, .br false, .br false, .br true] (fun e => ai (binary_shapeOf.c A1) (ai (z0 c2) (ai (q0 c3) (ai (d0 c5) (ai (d0 c5) (ai (d0 c5) (ai (d0 c5) (ai (d0 c5) (ai (d0 c5) (ai (d1 c6) e)))))))))) (by kernel_rfl)
    ·obtain ⟨t3, A7, h⟩ := bnd h
     rcases ite_e h with ⟨c8, h⟩ | ⟨c8, h⟩
     ·obtain ⟨t4, A9, h⟩ := bnd h
      rcases ite_e h with ⟨c10, h⟩ | ⟨c10, h⟩
      ·have h := si h; subst h
       exact pth Tryz.func88 [.r (.ag [.i .i64 bt1.1, .i .i64 bt1.2.1, .i .i64 bt1.2.2.1, .i .u64 bt1.2.2.2]), .br false, .br false, .br false, .br false, .br false, .br false, .br false, .br false, .br false, .r (.s (.i .i64 t3)), .r (.s (.i .i64 t4)), .br true, .br true, .br true, .br true, .br true, .br true] (fun e => ai (binary_shapeOf.c A1) (ai (z0 c2) (ai (q0 c3) (ai (d0 c5) (ai (d0 c5) (ai (d0 c5) (ai (d0 c5) (ai (d0 c5) (ai (d0 c5) (ai (d0 c6) (ai (bits_TrailingZeros64.c A7) (ai c8 (ai (bits_Len64.c A9) (ai (d1 c10) (ai (d1 c10) (ai (d1 c10) (ai (d1 c10) (ai (d1 c10) (ai tt e))))))))))))))))))) (by kernel_rfl)
      ·rcases ite_e h with ⟨c11, h⟩ | ⟨c11, h⟩
       ·have h := si h; subst h
        exact pth Tryz.func88 [.r (.ag [.i .i64 bt1.1, .i .i64 bt1.2.1, .i .i64 bt1.2.2.1, .i .u64 bt1.2.2.2]), .br false, .br false, .br false, .br false, .br false, .br false, .br false, .br false, .br false, .r (.s (.i .i64 t3)), .r (.s (.i .i64 t4)), .br false, .br false, .br false, .br false, .br false, .br true] (fun e => ai (binary_shapeOf.c A1) (ai (z0 c2) (ai (q0 c3) (ai (d0 c5) (ai (d0 c5) (ai (d0 c5) (ai (d0 c5) (ai (d0 c5) (ai (d0 c5) (ai (d0 c6) (ai (bits_TrailingZeros64.c A7) (ai c8 (ai (bits_Len64.c A9) (ai (d0 c10) (ai (d0 c10) (ai (d0 c10) (ai (d0 c10) (ai (d0 c10) (ai (d1 c11) e))))))))))))))))))) (by kernel_rfl)
       ·rcases ite_e h with ⟨c12, h⟩ | ⟨c12, h⟩
        ·obtain ⟨t5, A13, h⟩ := bnd h
         rcases ite_e h with ⟨c14, h⟩ | ⟨c14, h⟩
         ·obtain ⟨t6, A15, h⟩ := bnd h
          have h := si h; subst h
          exact pth Tryz.func88 [.r (.ag [.i .i64 bt1.1, .i .i64 bt1.2.1, .i .i64 bt1.2.2.1, .i .u64 bt1.2.2.2]), .br false, .br false, .br false, .br false, .br false, .br false, .br false, .br false, .br false, .r (.s (.i .i64 t3)), .r (.s (.i .i64 t4)), .br false, .br false, .br false, .br false, .br false, .br false, .r (.s (.i .u64 t5)), .br true, .r (.s (.i .u64 t6))] (fun e => ai (binary_shapeOf.c A1) (ai (z0 c2) (ai (q0 c3) (ai (d0 c5) (ai (d0 c5) (ai (d0 c5) (ai (d0 c5) (ai (d0 c5) (ai (d0 c5) (ai (d0 c6) (ai (bits_TrailingZeros64.c A7) (ai c8 (ai (bits_Len64.c A9) (ai (d0 c10) (ai (d0 c10) (ai (d0 c10) (ai (d0 c10) (ai (d0 c10) (ai (d0 c11) (ai c12 (ai (binary_shape_hidden.c A13) (ai (d1 c14) (ai (binary_shape_made.c A15) e))))))))))))))))))))))) (by kernel_rfl)
         ·obtain ⟨t7, A16, h⟩ := bnd h
          obtain ⟨t8, A17, h⟩ := bnd h
          rcases ite_e h with ⟨c18, h⟩ | ⟨c18, h⟩
          ·have h := si h; subst h
           exact pth Tryz.func88 [.r (.ag [.i .i64 bt1.1, .i .i64 bt1.2.1, .i .i64 bt1.2.2.1, .i .u64 bt1.2.2.2]), .br false, .br false, .br false, .br false, .br false, .br false, .br false, .br false, .br false, .r (.s (.i .i64 t3)), .r (.s (.i .i64 t4)), .br false, .br false, .br false, .br false, .br false, .br false, .r (.s (.i .u64 t5)), .br false, .r (.s (.i .u64 t7)), .r (.s (.i .u64 t8)), .br true] (fun e => ai (binary_shapeOf.c A1) (ai (z0 c2) (ai (q0 c3) (ai (d0 c5) (ai (d0 c5) (ai (d0 c5) (ai (d0 c5) (ai (d0 c5) (ai (d0 c5) (ai (d0 c6) (ai (bits_TrailingZeros64.c A7) (ai c8 (ai (bits_Len64.c A9) (ai (d0 c10) (ai (d0 c10) (ai (d0 c10) (ai (d0 c10) (ai (d0 c10) (ai (d0 c11) (ai c12 (ai (binary_shape_hidden.c A13) (ai (d0 c14) (ai (binary_shape_hidden.c A16) (ai (binary_shape_inf.c A17) (ai (d1 c18) e))))))))))))))))))))))))) (by kernel_rfl)
          ·obtain ⟨t9, A19, h⟩ := bnd h
           have h := si h; subst h
           exact pth Tryz.func88 [.r (.ag [.i .i64 bt1.1, .i .i64 bt1.2.1, .i .i64 bt1.2.2.1, .i .u64 bt1.2.2.2]), .br false, .br false, .br false, .br false, .br false, .br false, .br false, .br false, .br false, .r (.s (.i .i64 t3)), .r (.s (.i .i64 t4)), .br false, .br false, .br false, .br false, .br false, .br false, .r (.s (.i .u64 t5)), .br false, .r (.s (.i .u64 t7)), .r (.s (.i .u64 t8)), .br false, .r (.s (.i .u64 t9))] (fun e => ai (binary_shapeOf.c A1) (ai (z0 c2) (ai (q0 c3) (ai (d0 c5) (ai (d0 c5) (ai (d0 c5) (ai (d0 c5) (ai (d0 c5) (ai (d0 c5) (ai (d0 c6) (ai (bits_TrailingZeros64.c A7) (ai c8 (ai (bits_Len64.c A9) (ai (d0 c10) (ai (d0 c10) (ai (d0 c10) (ai (d0 c10) (ai (d0 c10) (ai (d0 c11) (ai c12 (ai (binary_shape_hidden.c A13) (ai (d0 c14) (ai (binary_shape_hidden.c A16) (ai (binary_shape_inf.c A17) (ai (d0 c18) (ai (binary_shape_made.c A19) e)))))))))))))))))))))))))) (by kernel_rfl)
        ·cases h
     ·cases h
def binary_Widen.f (k : Nat) (a0 : Int) : Option (Int × Int) := (binary_take.f k 32 a0).bind fun bt1 => (if bt1.2.2.2.2.2.2 = 0 then ((binary_shapeOf.f 64).bind fun bt2 => ((binary_shape_class.f bt1.1 bt1.2.1 bt1.2.2.1 bt1.2.2.2.1 bt1.2.2.2.2.2.1).bind fun t3 => (if t3 = 4 then (some (bt2.2.2.2, 0)) else (if t3 = 3 then ((binary_shape_inf.f bt2.1 bt2.2.1 bt2.2.2.1 bt2.2.2.2).bind fun t4 => ((binary_shape_made.f bt2.1 bt2.2.1 bt2.2.2.1 bt2.2.2.2 bt1.2.2.2.2.1 t4).bind fun t5 => (some (t5, 0)))) else ((binary_shape_parts.f bt1.1 bt1.2.1 bt1.2.2.1 bt1.2.2.2.1 bt1.2.2.2.2.2.1).bind fun bt6 => ((binary_Join.f 64 bt1.2.2.2.2.1 bt6.1 bt6.2).bind fun bt7 => (some (bt7.1, bt7.2)))))))) else (some (0, bt1.2.2.2.2.2.2)))
theorem binary_Widen.mono : ∀ a0 k, LeO (binary_Widen.f k a0) (binary_Widen.f (k + 1) a0) := by
 intro a0 k
 unfold binary_Widen.f
 repeat' first
  | (with_reducible exact binary_take.mono _ _ _)
  | (with_reducible exact LeO.refl _)
  | (with_reducible exact LeO.none _)
  | (with_reducible refine LeO.ite ?_ ?_)
  | (with_reducible refine LeO.bind ?_ (fun _ => ?_))
theorem binary_Widen.c {k : Nat} {a0 : Int} {r : Int × Int} (h : binary_Widen.f k a0 = some r) : Con Tryz.prog Gw 45 [.s (.i .u64 a0)] (· = .tu [.s (.i .u64 r.1), .s (.i .i64 r.2)]) := by
 unfold binary_Widen.f at h
 obtain ⟨bt1, A1, h⟩ := bnd h
 rcases ite_e h with ⟨c2, h⟩ | ⟨c2, h⟩
 ·obtain ⟨bt2, A3, h⟩ := bnd h
  obtain ⟨t3, A4, h⟩ := bnd h
  rcases ite_e h with ⟨c5, h⟩ | ⟨c5, h⟩
  ·have h := si h; subst h
   exact pth Tryz.func45 [.r (.tu [.ag [.i .i64 bt1.1, .i .i64 bt1.2.1, .i .i64 bt1.2.2.1, .i .u64 bt1.2.2.2.1], .s (.b bt1.2.2.2.2.1), .s (.i .u64 bt1.2.2.2.2.2.1), .s (.i .i64 bt1.2.2.2.2.2.2)]), .br false, .r (.ag [.i .i64 bt2.1, .i .i64 bt2.2.1, .i .i64 bt2.2.2.1, .i .u64 bt2.2.2.2]), .r (.s (.i .i64 t3)), .br true] (fun e => ai (binary_take.c A1) (ai (n0 c2) (ai (binary_shapeOf.c A3) (ai (binary_shape_class.c A4) (ai (q1 c5) e))))) (by kernel_rfl)
  ·rcases ite_e h with ⟨c6, h⟩ | ⟨c6, h⟩
   ·obtain ⟨t4, A7, h⟩ := bnd h
    obtain ⟨t5, A8, h⟩ := bnd h
    have h := si h; subst h
    exact pth Tryz.func45 [.r (.tu [.ag [.i .i64 bt1.1, .i .i64 bt1.2.1, .i .i64 bt1.2.2.1, .i .u64 bt1.2.2.2.1], .s (.b bt1.2.2.2.2.1), .s (.i .u64 bt1.2.2.2.2.2.1), .s (.i .i64 bt1.2.2.2.2.2.2)]), .br false, .r (.ag [.i .i64 bt2.1, .i .i64 bt2.2.1, .i .i64 bt2.2.2.1, .i .u64 bt2.2.2.2]), .r (.s (.i .i64 t3)), .br false, .br true, .r (.s (.i .u64 t4)), .r (.s (.i .u64 t5))] (fun e => ai (binary_take.c A1) (ai (n0 c2) (ai (binary_shapeOf.c A3) (ai (binary_shape_class.c A4) (ai (q0 c5) (ai (q1 c6) (ai (binary_shape_inf.c A7) (ai (binary_shape_made.c A8) e)))))))) (by kernel_rfl)
   ·obtain ⟨bt6, A9, h⟩ := bnd h
    obtain ⟨bt7, A10, h⟩ := bnd h
    have h := si h; subst h
    exact pth Tryz.func45 [.r (.tu [.ag [.i .i64 bt1.1, .i .i64 bt1.2.1, .i .i64 bt1.2.2.1, .i .u64 bt1.2.2.2.1], .s (.b bt1.2.2.2.2.1), .s (.i .u64 bt1.2.2.2.2.2.1), .s (.i .i64 bt1.2.2.2.2.2.2)]), .br false, .r (.ag [.i .i64 bt2.1, .i .i64 bt2.2.1, .i .i64 bt2.2.2.1, .i .u64 bt2.2.2.2]), .r (.s (.i .i64 t3)), .br false, .br false, .r (.tu [.s (.i .u64 bt6.1), .s (.i .i64 bt6.2)]), .r (.tu [.s (.i .u64 bt7.1), .s (.i .i64 bt7.2)])] (fun e => ai (binary_take.c A1) (ai (n0 c2) (ai (binary_shapeOf.c A3) (ai (binary_shape_class.c A4) (ai (q0 c5) (ai (q0 c6) (ai (binary_shape_parts.c A9) (ai (binary_Join.c A10) e)))))))) (by kernel_rfl)
 ·have h := si h; subst h
  exact pth Tryz.func45 [.r (.tu [.ag [.i .i64 bt1.1, .i .i64 bt1.2.1, .i .i64 bt1.2.2.1, .i .u64 bt1.2.2.2.1], .s (.b bt1.2.2.2.2.1), .s (.i .u64 bt1.2.2.2.2.2.1), .s (.i .i64 bt1.2.2.2.2.2.2)]), .br true] (fun e => ai (binary_take.c A1) (ai (n1 c2) e)) (by kernel_rfl)
end Go.Proofs.YtokoadgahflafaaGreatDoor.PLib
