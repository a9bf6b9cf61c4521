/- Functions of the program as plain Lean functions (definitions as the print's), and that the machine's calls do what they do (contracts 'X.c', by Px). Condition: math/bits' table is laid. -/
import Derived.Test.YtelfmddcjlocpaaDoorKRoundInsidePxBr
import Derived.Test.YtelfmddcjlocpaaDoorKRoundInsidePRefx0
import Derived.Test.YtelfmddcjlocpaaDoorKRoundInsidePxRef
import Derived.Test.YtelfmddcjlocpaaDoorKRoundInsidePxL0
import Derived.Test.YtelfmddcjlocpaaDoorKRoundInsidePxL1
import Derived.Test.YtelfmddcjlocpaaDoorKRoundInsidePxL2
import Derived.Test.YtelfmddcjlocpaaDoorKRoundInsidePxL3
set_option linter.unusedVariables false
namespace Go.Proofs.YtelfmddcjlocpaaDoor.PLib
open Go Go.RowKit Go.Proofs.YtelfmddcjlocpaaDoorW.PrintWords Go.Proofs.YtelfmddcjlocpaaDoorW.PrintMore Go.Proofs.YtelfmddcjlocpaaDoor.Given Go.Proofs.YtelfmddcjlocpaaDoor.Px Go.Proofs.YtelfmddcjlocpaaDoor.PRef
def gnomonlaw08_sign.f (a0 : Int) : Option (Int) := if 0 ≤ (wrap64 (a0 - 1)) then (some (shl .u64 1 (wrap64 (a0 - 1)))) else (none)
theorem gnomonlaw08_sign.c {a0 : Int} {r : Int} (h : gnomonlaw08_sign.f a0 = some r) : Con Tryd.prog Gw 16 [.s (.i .i64 a0)] (· = .s (.i .u64 r)) := by
 unfold gnomonlaw08_sign.f at h
 rcases ite_e h with ⟨c1, h⟩ | ⟨c1, h⟩
 ·have h := si h; subst h
  exact pth Tryd.func16 [] (fun e => ai c1 e) (by kernel_rfl)
 ·cases h
def dyadic_twin.f (a0_0 : Bool) (l0_1 : List Int) (a0_2 : Int) : Option (Bool × List Int × Int) := (slices_Clone_uint64_uint64.f l0_1).bind fun t715 => (some (a0_0, t715, a0_2))
theorem dyadic_twin.c {a0_0 : Bool} {l0_1 : List Int} {a0_2 : Int} {r : Bool × List Int × Int} (h : dyadic_twin.f a0_0 l0_1 a0_2 = some r) : Con Tryd.prog Gw 59 [.ag [.b a0_0, .sl .u64 l0_1, .i .i64 a0_2]] (· = .ag [.b r.1, .sl .u64 r.2.1, .i .i64 r.2.2]) := by
 unfold dyadic_twin.f at h
 obtain ⟨t715, A1, h⟩ := bnd h
 have h := si h; subst h
 exact pth Tryd.func59 [.r (.s (.sl .u64 t715))] (fun e => ai (slices_Clone_uint64_uint64.c A1) e) (by kernel_rfl)
def dyadic_Neg.f (k : Nat) (a0_0 : Bool) (l0_1 : List Int) (a0_2 : Int) : Option (Bool × List Int × Int × Int) := (dyadic_Form.f k a0_0 l0_1 a0_2).bind fun t720 => (if t720 = true then ((dyadic_twin.f a0_0 l0_1 a0_2).bind fun bt721 => (if bt721.1 = true then (some (false, bt721.2.1, bt721.2.2, 0)) else ((dyadic_nought.f bt721.1 bt721.2.1 bt721.2.2).bind fun t726 => (some (!t726, bt721.2.1, bt721.2.2, 0))))) else (some (false, ([] : List Int), 0, 2)))
theorem dyadic_Neg.c {k : Nat} {a0_0 : Bool} {l0_1 : List Int} {a0_2 : Int} {r : Bool × List Int × Int × Int} (h : dyadic_Neg.f k a0_0 l0_1 a0_2 = some r) : Con Tryd.prog Gw 44 [.ag [.b a0_0, .sl .u64 l0_1, .i .i64 a0_2]] (· = .tu [.ag [.b r.1, .sl .u64 r.2.1, .i .i64 r.2.2.1], .s (.i .i64 r.2.2.2)]) := by
 unfold dyadic_Neg.f at h
 obtain ⟨t720, A1, h⟩ := bnd h
 rcases ite_e h with ⟨c2, h⟩ | ⟨c2, h⟩
 ·obtain ⟨bt721, A3, h⟩ := bnd h
  rcases ite_e h with ⟨c4, h⟩ | ⟨c4, h⟩
  ·have h := si h; subst h
   exact pth Tryd.func44 [.r (.s (.b t720)), .br false, .r (.ag [.b bt721.1, .sl .u64 bt721.2.1, .i .i64 bt721.2.2]), .br false, .br false, .br false, .br false] (fun e => ai (dyadic_Form.c A1) (ai (nt1 c2) (ai (dyadic_twin.c A3) (ai (nt1 c4) (ai (nt1 c4) (ai (nt1 c4) (ai (nt1 c4) e))))))) (by kernel_rfl)
  ·obtain ⟨t726, A5, h⟩ := bnd h
   have h := si h; subst h
   exact pth Tryd.func44 [.r (.s (.b t720)), .br false, .r (.ag [.b bt721.1, .sl .u64 bt721.2.1, .i .i64 bt721.2.2]), .br true, .br true, .r (.s (.b t726)), .br true, .br true] (fun e => ai (dyadic_Form.c A1) (ai (nt1 c2) (ai (dyadic_twin.c A3) (ai (nt0 (z0 c4)) (ai (nt0 (z0 c4)) (ai (dyadic_nought.c A5) (ai (nt0 (z0 c4)) (ai (nt0 (z0 c4)) e)))))))) (by kernel_rfl)
 ·have h := si h; subst h
  exact pth Tryd.func44 [.r (.s (.b t720)), .br true] (fun e => ai (dyadic_Form.c A1) (ai (nt0 (z0 c2)) e)) (by kernel_rfl)
def gnomonlaw08_beyond.f (k : Nat) (a0 : Int) (a1_0 : Bool) (l1_1 : List Int) (a1_2 : Int) (a2 : Int) : Option (Bool) := if a1_0 = true then ((dyadic_Neg.f k a1_0 l1_1 a1_2).bind fun bt102 => (if bt102.2.2.2 = 0 then ((gnomonlaw08_sign.f a0).bind fun t109 => ((gnomonref07_Of.f a0).bind fun bt110 => (if (Go.bits .xor .u64 a2 t109) = 0 then ((binary_Mid.f k a0 0).bind fun bt118 => (if bt118.2.2.2 = 0 then ((gnomonlaw08_at.f k bt102.1 bt102.2.1 bt102.2.2.1 bt118.1 bt118.2.1 bt118.2.2.1).bind fun t125 => (some (decide (t125 ≤ 0)))) else (some false))) else ((binary_Mid.f k a0 (IntKind.u64.wrap (bt110.2.2.2.2.1 - 1))).bind fun bt126 => (if (Go.bits .xor .u64 a2 t109) = bt110.2.2.2.2.1 then (if bt126.2.2.2 = 0 then ((gnomonlaw08_at.f k bt102.1 bt102.2.1 bt102.2.2.1 bt126.1 bt126.2.1 bt126.2.2.1).bind fun t133 => (if t133 ≥ 0 then ((gnomonlaw08_at.f k bt102.1 bt102.2.1 bt102.2.2.1 bt126.1 bt126.2.1 bt126.2.2.1).bind fun t134 => (some (decide (t134 ≤ 1)))) else (some false))) else (some false)) else (some false)))))) else (some false))) else ((gnomonref07_Of.f a0).bind fun bt135 => (if a2 = 0 then ((binary_Mid.f k a0 0).bind fun bt143 => (if bt143.2.2.2 = 0 then ((gnomonlaw08_at.f k a1_0 l1_1 a1_2 bt143.1 bt143.2.1 bt143.2.2.1).bind fun t150 => (some (decide (t150 ≤ 0)))) else (some false))) else ((binary_Mid.f k a0 (IntKind.u64.wrap (bt135.2.2.2.2.1 - 1))).bind fun bt151 => (if a2 = bt135.2.2.2.2.1 then (if bt151.2.2.2 = 0 then ((gnomonlaw08_at.f k a1_0 l1_1 a1_2 bt151.1 bt151.2.1 bt151.2.2.1).bind fun t158 => (if t158 ≥ 0 then ((gnomonlaw08_at.f k a1_0 l1_1 a1_2 bt151.1 bt151.2.1 bt151.2.2.1).bind fun t159 => (some (decide (t159 ≤ 1)))) else (some false))) else (some false)) else (some false)))))
theorem gnomonlaw08_beyond.c {k : Nat} {a0 : Int} {a1_0 : Bool} {l1_1 : List Int} {a1_2 : Int} {a2 : Int} {r : Bool} (h : gnomonlaw08_beyond.f k a0 a1_0 l1_1 a1_2 a2 = some r) : Con Tryd.prog Gw 18 [.s (.i .i64 a0), .ag [.b a1_0, .sl .u64 l1_1, .i .i64 a1_2], .s (.i .u64 a2)] (· = .s (.b r)) := by
 unfold gnomonlaw08_beyond.f at h
 rcases ite_e h with ⟨c1, h⟩ | ⟨c1, h⟩
 ·obtain ⟨bt102, A2, h⟩ := bnd h
  rcases ite_e h with ⟨c3, h⟩ | ⟨c3, h⟩
  ·obtain ⟨t109, A4, h⟩ := bnd h
   obtain ⟨bt110, A5, h⟩ := bnd h
   rcases ite_e h with ⟨c6, h⟩ | ⟨c6, h⟩
   ·obtain ⟨bt118, A7, h⟩ := bnd h
    rcases ite_e h with ⟨c8, h⟩ | ⟨c8, h⟩
    ·obtain ⟨t125, A9, h⟩ := bnd h
     have h := si h; subst h
     exact pth Tryd.func18 [.br true, .r (.tu [.ag [.b bt102.1, .sl .u64 bt102.2.1, .i .i64 bt102.2.2.1], .s (.i .i64 bt102.2.2.2)]), .br false, .r (.s (.i .u64 t109)), .r (.tu [.ag [.i .u64 bt110.1, .i .i64 bt110.2.1, .i .i64 bt110.2.2.1, .i .i64 bt110.2.2.2.1, .i .u64 bt110.2.2.2.2.1, .i .u64 bt110.2.2.2.2.2.1], .s (.b bt110.2.2.2.2.2.2)]), .br true, .r (.tu [.ag [.b bt118.1, .sl .u64 bt118.2.1, .i .i64 bt118.2.2.1], .s (.i .i64 bt118.2.2.2)]), .br true, .br true, .br true, .r (.s (.i .i64 t125)), .br true, .br true] (fun e => ai c1 (ai (dyadic_Neg.c A2) (ai (n0 c3) (ai (gnomonlaw08_sign.c A4) (ai (gnomonref07_Of.c A5) (ai (q1 c6) (ai (binary_Mid.c A7) (ai (q1 c8) (ai (q1 c8) (ai (q1 c8) (ai (gnomonlaw08_at.c A9) (ai (q1 c8) (ai (q1 c8) e))))))))))))) (by kernel_rfl)
    ·have h := si h; subst h
     exact pth Tryd.func18 [.br true, .r (.tu [.ag [.b bt102.1, .sl .u64 bt102.2.1, .i .i64 bt102.2.2.1], .s (.i .i64 bt102.2.2.2)]), .br false, .r (.s (.i .u64 t109)), .r (.tu [.ag [.i .u64 bt110.1, .i .i64 bt110.2.1, .i .i64 bt110.2.2.1, .i .i64 bt110.2.2.2.1, .i .u64 bt110.2.2.2.2.1, .i .u64 bt110.2.2.2.2.2.1], .s (.b bt110.2.2.2.2.2.2)]), .br true, .r (.tu [.ag [.b bt118.1, .sl .u64 bt118.2.1, .i .i64 bt118.2.2.1], .s (.i .i64 bt118.2.2.2)]), .br false, .br false, .br false, .br false, .br false] (fun e => ai c1 (ai (dyadic_Neg.c A2) (ai (n0 c3) (ai (gnomonlaw08_sign.c A4) (ai (gnomonref07_Of.c A5) (ai (q1 c6) (ai (binary_Mid.c A7) (ai (q0 c8) (ai (q0 c8) (ai (q0 c8) (ai (q0 c8) (ai (q0 c8) e)))))))))))) (by kernel_rfl)
   ·obtain ⟨bt126, A10, h⟩ := bnd h
    rcases ite_e h with ⟨c11, h⟩ | ⟨c11, h⟩
    ·rcases ite_e h with ⟨c12, h⟩ | ⟨c12, h⟩
     ·obtain ⟨t133, A13, h⟩ := bnd h
      rcases ite_e h with ⟨c14, h⟩ | ⟨c14, h⟩
      ·obtain ⟨t134, A15, h⟩ := bnd h
       have h := si h; subst h
       exact pth Tryd.func18 [.br true, .r (.tu [.ag [.b bt102.1, .sl .u64 bt102.2.1, .i .i64 bt102.2.2.1], .s (.i .i64 bt102.2.2.2)]), .br false, .r (.s (.i .u64 t109)), .r (.tu [.ag [.i .u64 bt110.1, .i .i64 bt110.2.1, .i .i64 bt110.2.2.1, .i .i64 bt110.2.2.2.1, .i .u64 bt110.2.2.2.2.1, .i .u64 bt110.2.2.2.2.2.1], .s (.b bt110.2.2.2.2.2.2)]), .br false, .r (.tu [.ag [.b bt126.1, .sl .u64 bt126.2.1, .i .i64 bt126.2.2.1], .s (.i .i64 bt126.2.2.2)]), .br true, .br true, .br true, .br true, .br true, .br true, .r (.s (.i .i64 t133)), .br true, .br true, .br true, .br true, .br true, .r (.s (.i .i64 t134)), .br true, .br true] (fun e => ai c1 (ai (dyadic_Neg.c A2) (ai (n0 c3) (ai (gnomonlaw08_sign.c A4) (ai (gnomonref07_Of.c A5) (ai (q0 c6) (ai (binary_Mid.c A10) (ai (q1 c11) (ai (q1 c11) (ai (q1 c11) (ai (q1 c12) (ai (q1 c12) (ai (q1 c12) (ai (gnomonlaw08_at.c A13) (ai (q1 c12) (ai (q1 c12) (ai (d1 c14) (ai (d1 c14) (ai (d1 c14) (ai (gnomonlaw08_at.c A15) (ai (d1 c14) (ai (d1 c14) e)))))))))))))))))))))) (by kernel_rfl)
      ·have h := si h; subst h
       exact pth Tryd.func18 [.br true, .r (.tu [.ag [.b bt102.1, .sl .u64 bt102.2.1, .i .i64 bt102.2.2.1], .s (.i .i64 bt102.2.2.2)]), .br false, .r (.s (.i .u64 t109)), .r (.tu [.ag [.i .u64 bt110.1, .i .i64 bt110.2.1, .i .i64 bt110.2.2.1, .i .i64 bt110.2.2.2.1, .i .u64 bt110.2.2.2.2.1, .i .u64 bt110.2.2.2.2.2.1], .s (.b bt110.2.2.2.2.2.2)]), .br false, .r (.tu [.ag [.b bt126.1, .sl .u64 bt126.2.1, .i .i64 bt126.2.2.1], .s (.i .i64 bt126.2.2.2)]), .br true, .br true, .br true, .br true, .br true, .br true, .r (.s (.i .i64 t133)), .br true, .br true, .br false, .br false, .br false, .br false, .br false] (fun e => ai c1 (ai (dyadic_Neg.c A2) (ai (n0 c3) (ai (gnomonlaw08_sign.c A4) (ai (gnomonref07_Of.c A5) (ai (q0 c6) (ai (binary_Mid.c A10) (ai (q1 c11) (ai (q1 c11) (ai (q1 c11) (ai (q1 c12) (ai (q1 c12) (ai (q1 c12) (ai (gnomonlaw08_at.c A13) (ai (q1 c12) (ai (q1 c12) (ai (d0 c14) (ai (d0 c14) (ai (d0 c14) (ai (d0 c14) (ai (d0 c14) e))))))))))))))))))))) (by kernel_rfl)
     ·have h := si h; subst h
      exact pth Tryd.func18 [.br true, .r (.tu [.ag [.b bt102.1, .sl .u64 bt102.2.1, .i .i64 bt102.2.2.1], .s (.i .i64 bt102.2.2.2)]), .br false, .r (.s (.i .u64 t109)), .r (.tu [.ag [.i .u64 bt110.1, .i .i64 bt110.2.1, .i .i64 bt110.2.2.1, .i .i64 bt110.2.2.2.1, .i .u64 bt110.2.2.2.2.1, .i .u64 bt110.2.2.2.2.2.1], .s (.b bt110.2.2.2.2.2.2)]), .br false, .r (.tu [.ag [.b bt126.1, .sl .u64 bt126.2.1, .i .i64 bt126.2.2.1], .s (.i .i64 bt126.2.2.2)]), .br true, .br true, .br true, .br false, .br false, .br false, .br false, .br false, .br false, .br false, .br false, .br false, .br false] (fun e => ai c1 (ai (dyadic_Neg.c A2) (ai (n0 c3) (ai (gnomonlaw08_sign.c A4) (ai (gnomonref07_Of.c A5) (ai (q0 c6) (ai (binary_Mid.c A10) (ai (q1 c11) (ai (q1 c11) (ai (q1 c11) (ai (q0 c12) (ai (q0 c12) (ai (q0 c12) (ai (q0 c12) (ai (q0 c12) (ai ff (ai ff (ai ff (ai ff (ai ff e)))))))))))))))))))) (by kernel_rfl)
    ·have h := si h; subst h
     exact pth Tryd.func18 [.br true, .r (.tu [.ag [.b bt102.1, .sl .u64 bt102.2.1, .i .i64 bt102.2.2.1], .s (.i .i64 bt102.2.2.2)]), .br false, .r (.s (.i .u64 t109)), .r (.tu [.ag [.i .u64 bt110.1, .i .i64 bt110.2.1, .i .i64 bt110.2.2.1, .i .i64 bt110.2.2.2.1, .i .u64 bt110.2.2.2.2.1, .i .u64 bt110.2.2.2.2.2.1], .s (.b bt110.2.2.2.2.2.2)]), .br false, .r (.tu [.ag [.b bt126.1, .sl .u64 bt126.2.1, .i .i64 bt126.2.2.1], .s (.i .i64 bt126.2.2.2)]), .br false, .br false, .br false, .br false, .br false, .br false, .br false, .br false, .br false, .br false, .br false, .br false, .br false] (fun e => ai c1 (ai (dyadic_Neg.c A2) (ai (n0 c3) (ai (gnomonlaw08_sign.c A4) (ai (gnomonref07_Of.c A5) (ai (q0 c6) (ai (binary_Mid.c A10) (ai (q0 c11) (ai (q0 c11) (ai (q0 c11) (ai ff (ai ff (ai ff (ai ff (ai ff (ai ff (ai ff (ai ff (ai ff (ai ff e)))))))))))))))))))) (by kernel_rfl)
  ·have h := si h; subst h
   exact pth Tryd.func18 [.br true, .r (.tu [.ag [.b bt102.1, .sl .u64 bt102.2.1, .i .i64 bt102.2.2.1], .s (.i .i64 bt102.2.2.2)]), .br true] (fun e => ai c1 (ai (dyadic_Neg.c A2) (ai (n1 c3) e))) (by kernel_rfl)
 ·obtain ⟨bt135, A16, h⟩ := bnd h
  rcases ite_e h with ⟨c17, h⟩ | ⟨c17, h⟩
  ·obtain ⟨bt143, A18, h⟩ := bnd h
   rcases ite_e h with ⟨c19, h⟩ | ⟨c19, h⟩
   ·obtain ⟨t150, A20, h⟩ := bnd h
    have h := si h; subst h
    exact pth Tryd.func18 [.br false, .r (.tu [.ag [.i .u64 bt135.1, .i .i64 bt135.2.1, .i .i64 bt135.2.2.1, .i .i64 bt135.2.2.2.1, .i .u64 bt135.2.2.2.2.1, .i .u64 bt135.2.2.2.2.2.1], .s (.b bt135.2.2.2.2.2.2)]), .br true, .r (.tu [.ag [.b bt143.1, .sl .u64 bt143.2.1, .i .i64 bt143.2.2.1], .s (.i .i64 bt143.2.2.2)]), .br true, .br true, .br true, .r (.s (.i .i64 t150)), .br true, .br true] (fun e => ai (z0 c1) (ai (gnomonref07_Of.c A16) (ai (q1 c17) (ai (binary_Mid.c A18) (ai (q1 c19) (ai (q1 c19) (ai (q1 c19) (ai (gnomonlaw08_at.c A20) (ai (q1 c19) (ai (q1 c19) e)))))))))) (by kernel_rfl)
   ·have h := si h; subst h
    exact pth Tryd.func18 [.br false, .r (.tu [.ag [.i .u64 bt135.1, .i .i64 bt135.2.1, .i .i64 bt135.2.2.1, .i .i64 bt135.2.2.2.1, .i .u64 bt135.2.2.2.2.1, .i .u64 bt135.2.2.2.2.2.1], .s (.b bt135.2.2.2.2.2.2)]), .br true, .r (.tu [.ag [.b bt143.1, .sl .u64 bt143.2.1, .i .i64 bt143.2.2.1], .s (.i .i64 bt143.2.2.2)]), .br false, .br false, .br false, .br false, .br false] (fun e => ai (z0 c1) (ai (gnomonref07_Of.c A16) (ai (q1 c17) (ai (binary_Mid.c A18) (ai (q0 c19) (ai (q0 c19) (ai (q0 c19) (ai (q0 c19) (ai (q0 c19) e))))))))) (by kernel_rfl)
  ·obtain ⟨bt151, A21, h⟩ := bnd h
   rcases ite_e h with ⟨c22, h⟩ | ⟨c22, h⟩
   ·rcases ite_e h with ⟨c23, h⟩ | ⟨c23, h⟩
    ·obtain ⟨t158, A24, h⟩ := bnd h
     rcases ite_e h with ⟨c25, h⟩ | ⟨c25, h⟩
     ·obtain ⟨t159, A26, h⟩ := bnd h
      have h := si h; subst h
      exact pth Tryd.func18 [.br false, .r (.tu [.ag [.i .u64 bt135.1, .i .i64 bt135.2.1, .i .i64 bt135.2.2.1, .i .i64 bt135.2.2.2.1, .i .u64 bt135.2.2.2.2.1, .i .u64 bt135.2.2.2.2.2.1], .s (.b bt135.2.2.2.2.2.2)]), .br false, .r (.tu [.ag [.b bt151.1, .sl .u64 bt151.2.1, .i .i64 bt151.2.2.1], .s (.i .i64 bt151.2.2.2)]), .br true, .br true, .br true, .br true, .br true, .br true, .r (.s (.i .i64 t158)), .br true, .br true, .br true, .br true, .br true, .r (.s (.i .i64 t159)), .br true, .br true] (fun e => ai (z0 c1) (ai (gnomonref07_Of.c A16) (ai (q0 c17) (ai (binary_Mid.c A21) (ai (q1 c22) (ai (q1 c22) (ai (q1 c22) (ai (q1 c23) (ai (q1 c23) (ai (q1 c23) (ai (gnomonlaw08_at.c A24) (ai (q1 c23) (ai (q1 c23) (ai (d1 c25) (ai (d1 c25) (ai (d1 c25) (ai (gnomonlaw08_at.c A26) (ai (d1 c25) (ai (d1 c25) e))))))))))))))))))) (by kernel_rfl)
     ·have h := si h; subst h
      exact pth Tryd.func18 [.br false, .r (.tu [.ag [.i .u64 bt135.1, .i .i64 bt135.2.1, .i .i64 bt135.2.2.1, .i .i64 bt135.2.2.2.1, .i .u64 bt135.2.2.2.2.1, .i .u64 bt135.2.2.2.2.2.1], .s (.b bt135.2.2.2.2.2.2)]), .br false, .r (.tu [.ag [.b bt151.1, .sl .u64 bt151.2.1, .i .i64 bt151.2.2.1], .s (.i .i64 bt151.2.2.2)]), .br true, .br true, .br true, .br true, .br true, .br true, .r (.s (.i .i64 t158)), .br true, .br true, .br false, .br false, .br false, .br false, .br false] (fun e => ai (z0 c1) (ai (gnomonref07_Of.c A16) (ai (q0 c17) (ai (binary_Mid.c A21) (ai (q1 c22) (ai (q1 c22) (ai (q1 c22) (ai (q1 c23) (ai (q1 c23) (ai (q1 c23) (ai (gnomonlaw08_at.c A24) (ai (q1 c23) (ai (q1 c23) (ai (d0 c25) (ai (d0 c25) (ai (d0 c25) (ai (d0 c25) (ai (d0 c25) e)))))))))))))))))) (by kernel_rfl)
    ·have h := si h; subst h
     exact pth Tryd.func18 [.br false, .r (.tu [.ag [.i .u64 bt135.1, .i .i64 bt135.2.1, .i .i64 bt135.2.2.1, .i .i64 bt135.2.2.2.1, .i .u64 bt135.2.2.2.2.1, .i .u64 bt135.2.2.2.2.2.1], .s (.b bt135.2.2.2.2.2.2)]), .br false, .r (.tu [.ag [.b bt151.1, .sl .u64 bt151.2.1, .i .i64 bt151.2.2.1], .s (.i .i64 bt151.2.2.2)]), .br true, .br true, .br true, .br false, .br false, .br false, .br false, .br false, .br false, .br false, .br false, .br false, .br false] (fun e => ai (z0 c1) (ai (gnomonref07_Of.c A16) (ai (q0 c17) (ai (binary_Mid.c A21) (ai (q1 c22) (ai (q1 c22) (ai (q1 c22) (ai (q0 c23) (ai (q0 c23) (ai (q0 c23) (ai (q0 c23) (ai (q0 c23) (ai ff (ai ff (ai ff (ai ff (ai ff e))))))))))))))))) (by kernel_rfl)
   ·have h := si h; subst h
    exact pth Tryd.func18 [.br false, .r (.tu [.ag [.i .u64 bt135.1, .i .i64 bt135.2.1, .i .i64 bt135.2.2.1, .i .i64 bt135.2.2.2.1, .i .u64 bt135.2.2.2.2.1, .i .u64 bt135.2.2.2.2.2.1], .s (.b bt135.2.2.2.2.2.2)]), .br false, .r (.tu [.ag [.b bt151.1, .sl .u64 bt151.2.1, .i .i64 bt151.2.2.1], .s (.i .i64 bt151.2.2.2)]), .br false, .br false, .br false, .br false, .br false, .br false, .br false, .br false, .br false, .br false, .br false, .br false, .br false] (fun e => ai (z0 c1) (ai (gnomonref07_Of.c A16) (ai (q0 c17) (ai (binary_Mid.c A21) (ai (q0 c22) (ai (q0 c22) (ai (q0 c22) (ai ff (ai ff (ai ff (ai ff (ai ff (ai ff (ai ff (ai ff (ai ff (ai ff e))))))))))))))))) (by kernel_rfl)
end Go.Proofs.YtelfmddcjlocpaaDoor.PLib
