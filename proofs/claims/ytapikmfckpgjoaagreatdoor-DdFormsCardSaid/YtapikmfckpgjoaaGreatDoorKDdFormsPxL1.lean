/- Functions of the program as plain Lean functions (definitions as the print's), and that the machine's calls do what they do (contracts 'X.c', by Px). Condition: math/bits' table is laid. -/
import Derived.Test.YtapikmfckpgjoaaGreatDoorKDdFormsPxBr
import Derived.Test.YtapikmfckpgjoaaGreatDoorKDdFormsPxFl
import Derived.Test.YtapikmfckpgjoaaGreatDoorKDdFormsGiven
import Derived.OwnWalk
import Derived.Lib.Mul64
import Derived.Laws.Bits64b
import Derived.WalkKit
import Derived.Deep.QuietTactic
import Derived.BigQuiet
import Derived.Tactics2
import Derived.Test.YtapikmfckpgjoaaGreatDoorKDdFormsPxL0
set_option linter.unusedVariables false
namespace Go.Proofs.YtapikmfckpgjoaaGreatDoor.PLib
open Go Go.RowKit Go.Proofs.YtapikmfckpgjoaaGreatDoorW.PrintWords Go.Proofs.YtapikmfckpgjoaaGreatDoorW.PrintMore Go.Proofs.YtapikmfckpgjoaaGreatDoor.Given Go.Proofs.YtapikmfckpgjoaaGreatDoor.Px
def gnomonref01_Same.l0 : Nat → List Int → List Int → Int → Option (Bool)
 | 0, _, _, _ => none
 | k + 1, x0, x1, x5 => if x5 < (x0.length : Int) then (if 0 ≤ x5 then (if x5 < (x1.length : Int) then (if (rd x0 x5) = (rd x1 x5) then (gnomonref01_Same.l0 k x0 x1 (wrap64 (x5 + 1))) else (some false)) else (none)) else (none)) else (some true)
def gnomonref01_Same.f (k : Nat) (l0 : List Int) (l1 : List Int) : Option (Bool) := if (l0.length : Int) = (l1.length : Int) then (gnomonref01_Same.l0 k l0 l1 0) else (some false)
theorem gnomonref01_Same.mono_l : ∀ k, (∀ y0 y1 y2, LeO (gnomonref01_Same.l0 k y0 y1 y2) (gnomonref01_Same.l0 (k + 1) y0 y1 y2))
 | 0 => fun _ _ _ r h => by simp [gnomonref01_Same.l0] at h
 | k + 1 => by
  have ih0 := gnomonref01_Same.mono_l k
  ·intro y0 y1 y2
   unfold gnomonref01_Same.l0
   repeat' first
   | (with_reducible exact ih0 _ _ _)
   | (with_reducible exact LeO.refl _)
   | (with_reducible exact LeO.none _)
   | (with_reducible refine LeO.ite ?_ ?_)
   | (with_reducible refine LeO.bind ?_ (fun _ => ?_))
   | exact ih0 _ _ _
   | exact LeO.none _
   | refine LeO.ite ?_ ?_
   | refine LeO.bind ?_ (fun _ => ?_)
theorem gnomonref01_Same.mono : ∀ a0 a1 k, LeO (gnomonref01_Same.f k a0 a1) (gnomonref01_Same.f (k + 1) a0 a1) := by
 intro a0 a1 k
 have ih0 := gnomonref01_Same.mono_l k
 unfold gnomonref01_Same.f
 repeat' first
   | (with_reducible exact ih0 _ _ _)
   | (with_reducible exact LeO.refl _)
   | (with_reducible exact LeO.none _)
   | (with_reducible refine LeO.ite ?_ ?_)
   | (with_reducible refine LeO.bind ?_ (fun _ => ?_))
   | exact ih0 _ _ _
   | exact LeO.none _
   | refine LeO.ite ?_ ?_
   | refine LeO.bind ?_ (fun _ => ?_)
theorem gnomonref01_Same.jc : ∀ k : Nat, (∀ (x0 : List Int) (x1 : List Int) (x5 : Int) (r : Bool), gnomonref01_Same.l0 k x0 x1 x5 = some r → Fin Tryz.prog Gw 121 (nav (bodyOf Tryz.f121) [1, 1, 0, 1, 0, 0] []) ⟨mkT 26 [(0, .s (.sl .u64 x0)), (1, .s (.sl .u64 x1)), (5, .s (.i .i64 x5))], []⟩ (· = .s (.b r)))
 | 0 => (fun _ _ _ _ h => nn h)
 | k + 1 => by
  have ih := gnomonref01_Same.jc k
  ·intro x0 x1 x5 r h
   rw [gnomonref01_Same.l0] at h
   rcases ite_e h with ⟨c1, h⟩ | ⟨c1, h⟩
   ·rcases ite_e h with ⟨c2, h⟩ | ⟨c2, h⟩
    ·rcases ite_e h with ⟨c3, h⟩ | ⟨c3, h⟩
     ·rcases ite_e h with ⟨c4, h⟩ | ⟨c4, h⟩
      ·exact jth Tryz.func121 [.br true, .br false, .cut 1 [0, 1, 5] [] []] (fun _ => ai (d1 c1) (ai c2 (ai c1 (ai c2 (ai c3 (ai (n0 c4) (ih _ _ _ _ h))))))) (by kernel_rfl)
      ·have h := si h; subst h
       exact jth Tryz.func121 [.br true, .br true] (fun e => ai (d1 c1) (ai c2 (ai c1 (ai c2 (ai c3 (ai (n1 c4) e)))))) (by kernel_rfl)
     ·cases h
    ·cases h
   ·have h := si h; subst h
    exact jth Tryz.func121 [.br false] (fun e => ai (d0 c1) e) (by kernel_rfl)
theorem gnomonref01_Same.c {k : Nat} {l0 : List Int} {l1 : List Int} {r : Bool} (h : gnomonref01_Same.f k l0 l1 = some r) : Con Tryz.prog Gw 121 [.s (.sl .u64 l0), .s (.sl .u64 l1)] (· = .s (.b r)) := by
 unfold gnomonref01_Same.f at h
 rcases ite_e h with ⟨c1, h⟩ | ⟨c1, h⟩
 ·exact pth Tryz.func121 [.br false, .cut 1 [0, 1, 5] [] []] (fun _ => ai (n0 c1) (gnomonref01_Same.jc k _ _ _ _ h)) (by kernel_rfl)
 ·have h := si h; subst h
  exact pth Tryz.func121 [.br true] (fun e => ai (n1 c1) e) (by kernel_rfl)
def gnomonref05_Same.f (k : Nat) (a0_0 : Bool) (l0_1 : List Int) (a0_2 : Int) (a1_0 : Bool) (l1_1 : List Int) (a1_2 : Int) : Option (Bool) := if (a0_0 == a1_0) = true then (if a0_2 = a1_2 then ((gnomonref01_Same.f k l0_1 l1_1).bind fun t550 => (some t550)) else (some false)) else (some false)
theorem gnomonref05_Same.mono : ∀ a0 a1 a2 a3 a4 a5 k, LeO (gnomonref05_Same.f k a0 a1 a2 a3 a4 a5) (gnomonref05_Same.f (k + 1) a0 a1 a2 a3 a4 a5) := by
 intro a0 a1 a2 a3 a4 a5 k
 unfold gnomonref05_Same.f
 repeat' first
   | (with_reducible exact gnomonref01_Same.mono _ _ _)
   | (with_reducible exact LeO.refl _)
   | (with_reducible exact LeO.none _)
   | (with_reducible refine LeO.ite ?_ ?_)
   | (with_reducible refine LeO.bind ?_ (fun _ => ?_))
   | exact gnomonref01_Same.mono _ _ _
   | exact LeO.none _
   | refine LeO.ite ?_ ?_
   | refine LeO.bind ?_ (fun _ => ?_)
theorem gnomonref05_Same.c {k : Nat} {a0_0 : Bool} {l0_1 : List Int} {a0_2 : Int} {a1_0 : Bool} {l1_1 : List Int} {a1_2 : Int} {r : Bool} (h : gnomonref05_Same.f k a0_0 l0_1 a0_2 a1_0 l1_1 a1_2 = some r) : Con Tryz.prog Gw 94 [.ag [.b a0_0, .sl .u64 l0_1, .i .i64 a0_2], .ag [.b a1_0, .sl .u64 l1_1, .i .i64 a1_2]] (· = .s (.b r)) := by
 unfold gnomonref05_Same.f at h
 rcases ite_e h with ⟨c1, h⟩ | ⟨c1, h⟩
 ·rcases ite_e h with ⟨c2, h⟩ | ⟨c2, h⟩
  ·obtain ⟨t550, A3, h⟩ := bnd h
   have h := si h; subst h
   exact pth Tryz.func94 [.br true, .br true, .br true, .br true, .br true, .br true, .br true, .br true, .br true, .br true, .br true, .br true, .br true, .r (.s (.b t550)), .br true] (fun e => ai c1 (ai c1 (ai c1 (ai c1 (ai c1 (ai c1 (ai (q1 c2) (ai (q1 c2) (ai (q1 c2) (ai (q1 c2) (ai (q1 c2) (ai (q1 c2) (ai (q1 c2) (ai (gnomonref01_Same.c A3) (ai (q1 c2) e))))))))))))))) (by kernel_rfl)
  ·have h := si h; subst h
   exact pth Tryz.func94 [.br true, .br true, .br true, .br true, .br true, .br true, .br false, .br false, .br false, .br false, .br false, .br false, .br false, .br false] (fun e => ai c1 (ai c1 (ai c1 (ai c1 (ai c1 (ai c1 (ai (q0 c2) (ai (q0 c2) (ai (q0 c2) (ai (q0 c2) (ai (q0 c2) (ai (q0 c2) (ai (q0 c2) (ai (q0 c2) e)))))))))))))) (by kernel_rfl)
 ·have h := si h; subst h
  exact pth Tryz.func94 [.br false, .br false, .br false, .br false, .br false, .br false, .br false, .br false, .br false, .br false, .br false, .br false, .br false, .br false] (fun e => ai (z0 c1) (ai (z0 c1) (ai (z0 c1) (ai (z0 c1) (ai (z0 c1) (ai (z0 c1) (ai ff (ai ff (ai ff (ai ff (ai ff (ai ff (ai ff (ai ff e)))))))))))))) (by kernel_rfl)
def dyadic_twin.f (a0_0 : Bool) (l0_1 : List Int) (a0_2 : Int) : Option (Bool × List Int × Int) := (slices_Clone_uint64_uint64.f l0_1).bind fun t715 => (some (a0_0, t715, a0_2))
theorem dyadic_twin.c {a0_0 : Bool} {l0_1 : List Int} {a0_2 : Int} {r : Bool × List Int × Int} (h : dyadic_twin.f a0_0 l0_1 a0_2 = some r) : Con Tryz.prog Gw 60 [.ag [.b a0_0, .sl .u64 l0_1, .i .i64 a0_2]] (· = .ag [.b r.1, .sl .u64 r.2.1, .i .i64 r.2.2]) := by
 unfold dyadic_twin.f at h
 obtain ⟨t715, A1, h⟩ := bnd h
 have h := si h; subst h
 exact pth Tryz.func60 [.r (.s (.sl .u64 t715))] (fun e => ai (slices_Clone_uint64_uint64.c A1) e) (by kernel_rfl)
def num_Add.f (a0_0 : Bool) (l0_1 : List Int) (a1_0 : Bool) (l1_1 : List Int) : Option (Bool × List Int × Int) := (num_Form.f a0_0 l0_1).bind fun t1 => (if t1 = true then ((num_Form.f a1_0 l1_1).bind fun t2 => (if t2 = true then (if a0_0 = a1_0 then ((nat_Add.f l0_1 l1_1).bind fun bt3 => ((num_told.f a0_0 bt3.1 bt3.2).bind fun bt4 => (some (bt4.1, bt4.2.1, bt4.2.2)))) else ((nat_Cmp.f l0_1 l1_1).bind fun t5 => (if t5 < 0 then ((nat_Sub.f l1_1 l0_1).bind fun bt6 => ((num_told.f a1_0 bt6.1 bt6.2).bind fun bt7 => (some (bt7.1, bt7.2.1, bt7.2.2)))) else ((nat_Sub.f l0_1 l1_1).bind fun bt8 => ((num_told.f a0_0 bt8.1 bt8.2).bind fun bt9 => (some (bt9.1, bt9.2.1, bt9.2.2))))))) else (some (false, ([] : List Int), 2)))) else (some (false, ([] : List Int), 2)))
theorem num_Add.c {a0_0 : Bool} {l0_1 : List Int} {a1_0 : Bool} {l1_1 : List Int} {r : Bool × List Int × Int} (h : num_Add.f a0_0 l0_1 a1_0 l1_1 = some r) : Con Tryz.prog Gw 62 [.ag [.b a0_0, .sl .u64 l0_1], .ag [.b a1_0, .sl .u64 l1_1]] (· = .tu [.ag [.b r.1, .sl .u64 r.2.1], .s (.i .i64 r.2.2)]) := by
 unfold num_Add.f at h
 obtain ⟨t1, A1, h⟩ := bnd h
 rcases ite_e h with ⟨c2, h⟩ | ⟨c2, h⟩
 ·obtain ⟨t2, A3, h⟩ := bnd h
  rcases ite_e h with ⟨c4, h⟩ | ⟨c4, h⟩
  ·rcases ite_e h with ⟨c5, h⟩ | ⟨c5, h⟩
   ·obtain ⟨bt3, A6, h⟩ := bnd h
    obtain ⟨bt4, A7, h⟩ := bnd h
    have h := si h; subst h
    exact pth Tryz.func62 [.r (.s (.b t1)), .br false, .br false, .r (.s (.b t2)), .br false, .br false, .br false, .br true, .r (.tu [.s (.sl .u64 bt3.1), .s (.i .i64 bt3.2)]), .r (.tu [.ag [.b bt4.1, .sl .u64 bt4.2.1], .s (.i .i64 bt4.2.2)])] (fun e => ai (num_Form.c A1) (ai (nt1 c2) (ai (nt1 c2) (ai (num_Form.c A3) (ai (nt1 c2) (ai (nt1 c2) (ai (nt1 c4) (ai (q1 c5) (ai (nat_Add.c A6) (ai (num_told.c A7) e)))))))))) (by kernel_rfl)
   ·obtain ⟨t5, A8, h⟩ := bnd h
    rcases ite_e h with ⟨c9, h⟩ | ⟨c9, h⟩
    ·obtain ⟨bt6, A10, h⟩ := bnd h
     obtain ⟨bt7, A11, h⟩ := bnd h
     have h := si h; subst h
     exact pth Tryz.func62 [.r (.s (.b t1)), .br false, .br false, .r (.s (.b t2)), .br false, .br false, .br false, .br false, .r (.s (.i .i64 t5)), .br true, .r (.tu [.s (.sl .u64 bt6.1), .s (.i .i64 bt6.2)]), .r (.tu [.ag [.b bt7.1, .sl .u64 bt7.2.1], .s (.i .i64 bt7.2.2)])] (fun e => ai (num_Form.c A1) (ai (nt1 c2) (ai (nt1 c2) (ai (num_Form.c A3) (ai (nt1 c2) (ai (nt1 c2) (ai (nt1 c4) (ai (q0 c5) (ai (nat_Cmp.c A8) (ai (d1 c9) (ai (nat_Sub.c A10) (ai (num_told.c A11) e)))))))))))) (by kernel_rfl)
    ·obtain ⟨bt8, A12, h⟩ := bnd h
     obtain ⟨bt9, A13, h⟩ := bnd h
     have h := si h; subst h
     exact pth Tryz.func62 [.r (.s (.b t1)), .br false, .br false, .r (.s (.b t2)), .br false, .br false, .br false, .br false, .r (.s (.i .i64 t5)), .br false, .r (.tu [.s (.sl .u64 bt8.1), .s (.i .i64 bt8.2)]), .r (.tu [.ag [.b bt9.1, .sl .u64 bt9.2.1], .s (.i .i64 bt9.2.2)])] (fun e => ai (num_Form.c A1) (ai (nt1 c2) (ai (nt1 c2) (ai (num_Form.c A3) (ai (nt1 c2) (ai (nt1 c2) (ai (nt1 c4) (ai (q0 c5) (ai (nat_Cmp.c A8) (ai (d0 c9) (ai (nat_Sub.c A12) (ai (num_told.c A13) e)))))))))))) (by kernel_rfl)
  ·have h := si h; subst h
   exact pth Tryz.func62 [.r (.s (.b t1)), .br false, .br false, .r (.s (.b t2)), .br false, .br false, .br true] (fun e => ai (num_Form.c A1) (ai (nt1 c2) (ai (nt1 c2) (ai (num_Form.c A3) (ai (nt1 c2) (ai (nt1 c2) (ai (nt0 (z0 c4)) e))))))) (by kernel_rfl)
 ·have h := si h; subst h
  exact pth Tryz.func62 [.r (.s (.b t1)), .br true, .br true, .br true, .br true, .br true] (fun e => ai (num_Form.c A1) (ai (nt0 (z0 c2)) (ai (nt0 (z0 c2)) (ai (nt0 (z0 c2)) (ai (nt0 (z0 c2)) (ai tt e)))))) (by kernel_rfl)
def dyadic_Add.f (k : Nat) (a0_0 : Bool) (l0_1 : List Int) (a0_2 : Int) (a1_0 : Bool) (l1_1 : List Int) (a1_2 : Int) : Option (Bool × List Int × Int × Int) := (dyadic_Form.f k a0_0 l0_1 a0_2).bind fun t1 => (if t1 = true then ((dyadic_Form.f k a1_0 l1_1 a1_2).bind fun t2 => (if t2 = true then ((dyadic_nought.f a0_0 l0_1 a0_2).bind fun t3 => (if t3 = true then ((dyadic_twin.f a1_0 l1_1 a1_2).bind fun bt4 => (some (bt4.1, bt4.2.1, bt4.2.2, 0))) else ((dyadic_nought.f a1_0 l1_1 a1_2).bind fun t5 => (if t5 = true then ((dyadic_twin.f a0_0 l0_1 a0_2).bind fun bt6 => (some (bt6.1, bt6.2.1, bt6.2.2, 0))) else ((num_Shl.f a0_0 l0_1 (wrap64 (a0_2 - (mn a0_2 a1_2)))).bind fun bt7 => ((num_Shl.f a1_0 l1_1 (wrap64 (a1_2 - (mn a0_2 a1_2)))).bind fun bt8 => (if bt7.2.2 = 0 then (if bt8.2.2 = 0 then ((num_Add.f bt7.1 bt7.2.1 bt8.1 bt8.2.1).bind fun bt9 => (if bt9.2.2 = 0 then ((dyadic_Make.f k bt9.1 bt9.2.1 (mn a0_2 a1_2)).bind fun bt10 => (some (bt10.1, bt10.2.1, bt10.2.2.1, bt10.2.2.2))) else (some (false, ([] : List Int), 0, bt9.2.2)))) else (some (false, ([] : List Int), 0, 5))) else (some (false, ([] : List Int), 0, 5))))))))) else (some (false, ([] : List Int), 0, 2)))) else (some (false, ([] : List Int), 0, 2)))
theorem dyadic_Add.mono : ∀ a0 a1 a2 a3 a4 a5 k, LeO (dyadic_Add.f k a0 a1 a2 a3 a4 a5) (dyadic_Add.f (k + 1) a0 a1 a2 a3 a4 a5) := by
 intro a0 a1 a2 a3 a4 a5 k
 unfold dyadic_Add.f
 repeat' first
  | (with_reducible exact dyadic_Form.mono _ _ _ _)
  | (with_reducible exact dyadic_Make.mono _ _ _ _)
  | (with_reducible exact LeO.refl _)
  | (with_reducible exact LeO.none _)
  | (with_reducible refine LeO.ite ?_ ?_)
  | (with_reducible refine LeO.bind ?_ (fun _ => ?_))
theorem dyadic_Add.c {k : Nat} {a0_0 : Bool} {l0_1 : List Int} {a0_2 : Int} {a1_0 : Bool} {l1_1 : List Int} {a1_2 : Int} {r : Bool × List Int × Int × Int} (h : dyadic_Add.f k a0_0 l0_1 a0_2 a1_0 l1_1 a1_2 = some r) : Con Tryz.prog Gw 28 [.ag [.b a0_0, .sl .u64 l0_1, .i .i64 a0_2], .ag [.b a1_0, .sl .u64 l1_1, .i .i64 a1_2]] (· = .tu [.ag [.b r.1, .sl .u64 r.2.1, .i .i64 r.2.2.1], .s (.i .i64 r.2.2.2)]) := by
 unfold dyadic_Add.f at h
 obtain ⟨t1, A1, h⟩ := bnd h
 rcases ite_e h with ⟨c2, h⟩ | ⟨c2, h⟩
 ·obtain ⟨t2, A3, h⟩ := bnd h
  rcases ite_e h with ⟨c4, h⟩ | ⟨c4, h⟩
  ·obtain ⟨t3, A5, h⟩ := bnd h
   rcases ite_e h with ⟨c6, h⟩ | ⟨c6, h⟩
   ·obtain ⟨bt4, A7, h⟩ := bnd h
    have h := si h; subst h
    exact pth Tryz.func28 [.r (.s (.b t1)), .br false, .br false, .r (.s (.b t2)), .br false, .br false, .br false, .r (.s (.b t3)), .br true, .r (.ag [.b bt4.1, .sl .u64 bt4.2.1, .i .i64 bt4.2.2])] (fun e => ai (dyadic_Form.c A1) (ai (nt1 c2) (ai (nt1 c2) (ai (dyadic_Form.c A3) (ai (nt1 c2) (ai (nt1 c2) (ai (nt1 c4) (ai (dyadic_nought.c A5) (ai c6 (ai (dyadic_twin.c A7) e)))))))))) (by kernel_rfl)
   ·obtain ⟨t5, A8, h⟩ := bnd h
    rcases ite_e h with ⟨c9, h⟩ | ⟨c9, h⟩
    ·obtain ⟨bt6, A10, h⟩ := bnd h
     have h := si h; subst h
     exact pth Tryz.func28 [.r (.s (.b t1)), .br false, .br false, .r (.s (.b t2)), .br false, .br false, .br false, .r (.s (.b t3)), .br false, .r (.s (.b t5)), .br true, .r (.ag [.b bt6.1, .sl .u64 bt6.2.1, .i .i64 bt6.2.2])] (fun e => ai (dyadic_Form.c A1) (ai (nt1 c2) (ai (nt1 c2) (ai (dyadic_Form.c A3) (ai (nt1 c2) (ai (nt1 c2) (ai (nt1 c4) (ai (dyadic_nought.c A5) (ai (z0 c6) (ai (dyadic_nought.c A8) (ai c9 (ai (dyadic_twin.c A10) e)))))))))))) (by kernel_rfl)
    ·obtain ⟨bt7, A11, h⟩ := bnd h
     obtain ⟨bt8, A12, h⟩ := bnd h
     rcases ite_e h with ⟨c13, h⟩ | ⟨c13, h⟩
     ·rcases ite_e h with ⟨c14, h⟩ | ⟨c14, h⟩
      ·obtain ⟨bt9, A15, h⟩ := bnd h
       rcases ite_e h with ⟨c16, h⟩ | ⟨c16, h⟩
       ·obtain ⟨bt10, A17, h⟩ := bnd h
        have h := si h; subst h
        exact pth Tryz.func28 [.r (.s (.b t1)), .br false, .br false, .r (.s (.b t2)), .br false, .br false, .br false, .r (.s (.b t3)), .br false, .r (.s (.b t5)), .br false, .r (.tu [.ag [.b bt7.1, .sl .u64 bt7.2.1], .s (.i .i64 bt7.2.2)]), .r (.tu [.ag [.b bt8.1, .sl .u64 bt8.2.1], .s (.i .i64 bt8.2.2)]), .br false, .br false, .br false, .br false, .r (.tu [.ag [.b bt9.1, .sl .u64 bt9.2.1], .s (.i .i64 bt9.2.2)]), .br false, .r (.tu [.ag [.b bt10.1, .sl .u64 bt10.2.1, .i .i64 bt10.2.2.1], .s (.i .i64 bt10.2.2.2)])] (fun e => ai (dyadic_Form.c A1) (ai (nt1 c2) (ai (nt1 c2) (ai (dyadic_Form.c A3) (ai (nt1 c2) (ai (nt1 c2) (ai (nt1 c4) (ai (dyadic_nought.c A5) (ai (z0 c6) (ai (dyadic_nought.c A8) (ai (z0 c9) (ai (num_Shl.c A11) (ai (num_Shl.c A12) (ai (n0 c13) (ai (n0 c13) (ai (n0 c13) (ai (n0 c14) (ai (num_Add.c A15) (ai (n0 c16) (ai (dyadic_Make.c A17) e)))))))))))))))))))) (by kernel_rfl)
       ·have h := si h; subst h
        exact pth Tryz.func28 [.r (.s (.b t1)), .br false, .br false, .r (.s (.b t2)), .br false, .br false, .br false, .r (.s (.b t3)), .br false, .r (.s (.b t5)), .br false, .r (.tu [.ag [.b bt7.1, .sl .u64 bt7.2.1], .s (.i .i64 bt7.2.2)]), .r (.tu [.ag [.b bt8.1, .sl .u64 bt8.2.1], .s (.i .i64 bt8.2.2)]), .br false, .br false, .br false, .br false, .r (.tu [.ag [.b bt9.1, .sl .u64 bt9.2.1], .s (.i .i64 bt9.2.2)]), .br true] (fun e => ai (dyadic_Form.c A1) (ai (nt1 c2) (ai (nt1 c2) (ai (dyadic_Form.c A3) (ai (nt1 c2) (ai (nt1 c2) (ai (nt1 c4) (ai (dyadic_nought.c A5) (ai (z0 c6) (ai (dyadic_nought.c A8) (ai (z0 c9) (ai (num_Shl.c A11) (ai (num_Shl.c A12) (ai (n0 c13) (ai (n0 c13) (ai (n0 c13) (ai (n0 c14) (ai (num_Add.c A15) (ai (n1 c16) e))))))))))))))))))) (by kernel_rfl)
      ·have h := si h; subst h
       exact pth Tryz.func28 [.r (.s (.b t1)), .br false, .br false, .r (.s (.b t2)), .br false, .br false, .br false, .r (.s (.b t3)), .br false, .r (.s (.b t5)), .br false, .r (.tu [.ag [.b bt7.1, .sl .u64 bt7.2.1], .s (.i .i64 bt7.2.2)]), .r (.tu [.ag [.b bt8.1, .sl .u64 bt8.2.1], .s (.i .i64 bt8.2.2)]), .br false, .br false, .br false, .br true] (fun e => ai (dyadic_Form.c A1) (ai (nt1 c2) (ai (nt1 c2) (ai (dyadic_Form.c A3) (ai (nt1 c2) (ai (nt1 c2) (ai (nt1 c4) (ai (dyadic_nought.c A5) (ai (z0 c6) (ai (dyadic_nought.c A8) (ai (z0 c9) (ai (num_Shl.c A11) (ai (num_Shl.c A12) (ai (n0 c13) (ai (n0 c13) (ai (n0 c13) (ai (n1 c14) e))))))))))))))))) (by kernel_rfl)
     ·have h := si h; subst h
      exact pth Tryz.func28 [.r (.s (.b t1)), .br false, .br false, .r (.s (.b t2)), .br false, .br false, .br false, .r (.s (.b t3)), .br false, .r (.s (.b t5)), .br false, .r (.tu [.ag [.b bt7.1, .sl .u64 bt7.2.1], .s (.i .i64 bt7.2.2)]), .r (.tu [.ag [.b bt8.1, .sl .u64 bt8.2.1], .s (.i .i64 bt8.2.2)]), .br true, .br true, .br true, .br true] (fun e => ai (dyadic_Form.c A1) (ai (nt1 c2) (ai (nt1 c2) (ai (dyadic_Form.c A3) (ai (nt1 c2) (ai (nt1 c2) (ai (nt1 c4) (ai (dyadic_nought.c A5) (ai (z0 c6) (ai (dyadic_nought.c A8) (ai (z0 c9) (ai (num_Shl.c A11) (ai (num_Shl.c A12) (ai (n1 c13) (ai (n1 c13) (ai (n1 c13) (ai tt e))))))))))))))))) (by kernel_rfl)
  ·have h := si h; subst h
   exact pth Tryz.func28 [.r (.s (.b t1)), .br false, .br false, .r (.s (.b t2)), .br false, .br false, .br true] (fun e => ai (dyadic_Form.c A1) (ai (nt1 c2) (ai (nt1 c2) (ai (dyadic_Form.c A3) (ai (nt1 c2) (ai (nt1 c2) (ai (nt0 (z0 c4)) e))))))) (by kernel_rfl)
 ·have h := si h; subst h
  exact pth Tryz.func28 [.r (.s (.b t1)), .br true, .br true, .br true, .br true, .br true] (fun e => ai (dyadic_Form.c A1) (ai (nt0 (z0 c2)) (ai (nt0 (z0 c2)) (ai (nt0 (z0 c2)) (ai (nt0 (z0 c2)) (ai tt e)))))) (by kernel_rfl)
def binary_Value.f (k : Nat) (a0 : Int) (a1 : Int) : Option (Bool × List Int × Int × Int) := (binary_finite.f k a0 a1).bind fun bt1 => (if bt1.2.2.2.2.2.2 = 0 then ((binary_shape_parts.f bt1.1 bt1.2.1 bt1.2.2.1 bt1.2.2.2.1 bt1.2.2.2.2.2.1).bind fun bt2 => ((binary_number.f k bt1.2.2.2.2.1 bt2.1 bt2.2).bind fun bt3 => (some (bt3.1, bt3.2.1, bt3.2.2.1, bt3.2.2.2)))) else (some (false, ([] : List Int), 0, bt1.2.2.2.2.2.2)))
theorem binary_Value.mono : ∀ a0 a1 k, LeO (binary_Value.f k a0 a1) (binary_Value.f (k + 1) a0 a1) := by
 intro a0 a1 k
 unfold binary_Value.f
 repeat' first
  | (with_reducible exact binary_finite.mono _ _ _)
  | (with_reducible exact binary_number.mono _ _ _ _)
  | (with_reducible exact LeO.refl _)
  | (with_reducible exact LeO.none _)
  | (with_reducible refine LeO.ite ?_ ?_)
  | (with_reducible refine LeO.bind ?_ (fun _ => ?_))
theorem binary_Value.c {k : Nat} {a0 : Int} {a1 : Int} {r : Bool × List Int × Int × Int} (h : binary_Value.f k a0 a1 = some r) : Con Tryz.prog Gw 52 [.s (.i .i64 a0), .s (.i .u64 a1)] (· = .tu [.ag [.b r.1, .sl .u64 r.2.1, .i .i64 r.2.2.1], .s (.i .i64 r.2.2.2)]) := by
 unfold binary_Value.f at h
 obtain ⟨bt1, A1, h⟩ := bnd h
 rcases ite_e h with ⟨c2, h⟩ | ⟨c2, h⟩
 ·obtain ⟨bt2, A3, h⟩ := bnd h
  obtain ⟨bt3, A4, h⟩ := bnd h
  have h := si h; subst h
  exact pth Tryz.func52 [.r (.tu [.ag [.i .i64 bt1.1, .i .i64 bt1.2.1, .i .i64 bt1.2.2.1, .i .u64 bt1.2.2.2.1], .s (.b bt1.2.2.2.2.1), .s (.i .u64 bt1.2.2.2.2.2.1), .s (.i .i64 bt1.2.2.2.2.2.2)]), .br false, .r (.tu [.s (.i .u64 bt2.1), .s (.i .i64 bt2.2)]), .r (.tu [.ag [.b bt3.1, .sl .u64 bt3.2.1, .i .i64 bt3.2.2.1], .s (.i .i64 bt3.2.2.2)])] (fun e => ai (binary_finite.c A1) (ai (n0 c2) (ai (binary_shape_parts.c A3) (ai (binary_number.c A4) e)))) (by kernel_rfl)
 ·have h := si h; subst h
  exact pth Tryz.func52 [.r (.tu [.ag [.i .i64 bt1.1, .i .i64 bt1.2.1, .i .i64 bt1.2.2.1, .i .u64 bt1.2.2.2.1], .s (.b bt1.2.2.2.2.1), .s (.i .u64 bt1.2.2.2.2.2.1), .s (.i .i64 bt1.2.2.2.2.2.2)]), .br true] (fun e => ai (binary_finite.c A1) (ai (n1 c2) e)) (by kernel_rfl)
def eft_TwoSum.f (a0 : Nat) (a1 : Nat) : Option (Nat × Nat) := (FloatKind.f64.format.add a0 a1).bind fun r1 => ((FloatKind.f64.format.sub r1 a0).bind fun r2 => ((FloatKind.f64.format.sub r1 r2).bind fun r3 => ((FloatKind.f64.format.sub a0 r3).bind fun r4 => ((FloatKind.f64.format.sub a1 r2).bind fun r5 => ((FloatKind.f64.format.add r4 r5).bind fun r6 => (some (r1, r6)))))))
theorem eft_TwoSum.c {a0 : Nat} {a1 : Nat} {r : Nat × Nat} (h : eft_TwoSum.f a0 a1 = some r) : Con Tryz.prog Gw 58 [.s (.fl .f64 a0), .s (.fl .f64 a1)] (· = .tu [.s (.fl .f64 r.1), .s (.fl .f64 r.2)]) := by
 unfold eft_TwoSum.f at h
 obtain ⟨r1, A1, h⟩ := bnd h
 obtain ⟨r2, A2, h⟩ := bnd h
 obtain ⟨r3, A3, h⟩ := bnd h
 obtain ⟨r4, A4, h⟩ := bnd h
 obtain ⟨r5, A5, h⟩ := bnd h
 obtain ⟨r6, A6, h⟩ := bnd h
 have h := si h; subst h
 exact pth Tryz.func58 [.r (.s (.fl .f64 r1)), .r (.s (.fl .f64 r2)), .r (.s (.fl .f64 r3)), .r (.s (.fl .f64 r4)), .r (.s (.fl .f64 r5)), .r (.s (.fl .f64 r6))] (fun e => ai A1 (ai A2 (ai A3 (ai A4 (ai A5 (ai A6 e)))))) (by kernel_rfl)
def eft_FastTwoSum.f (a0 : Nat) (a1 : Nat) : Option (Nat × Nat) := (FloatKind.f64.format.add a0 a1).bind fun r1 => ((FloatKind.f64.format.sub r1 a0).bind fun r2 => ((FloatKind.f64.format.sub a1 r2).bind fun r3 => (some (r1, r3))))
theorem eft_FastTwoSum.c {a0 : Nat} {a1 : Nat} {r : Nat × Nat} (h : eft_FastTwoSum.f a0 a1 = some r) : Con Tryz.prog Gw 68 [.s (.fl .f64 a0), .s (.fl .f64 a1)] (· = .tu [.s (.fl .f64 r.1), .s (.fl .f64 r.2)]) := by
 unfold eft_FastTwoSum.f at h
 obtain ⟨r1, A1, h⟩ := bnd h
 obtain ⟨r2, A2, h⟩ := bnd h
 obtain ⟨r3, A3, h⟩ := bnd h
 have h := si h; subst h
 exact pth Tryz.func68 [.r (.s (.fl .f64 r1)), .r (.s (.fl .f64 r2)), .r (.s (.fl .f64 r3))] (fun e => ai A1 (ai A2 (ai A3 e))) (by kernel_rfl)
def eft_Split.f (a0 : Nat) : Option (Nat × Nat) := (FloatKind.f64.format.mul 4728779608772575232 a0).bind fun r1 => ((FloatKind.f64.format.sub r1 a0).bind fun r2 => ((FloatKind.f64.format.sub r1 r2).bind fun r3 => ((FloatKind.f64.format.sub a0 r3).bind fun r4 => (some (r3, r4)))))
theorem eft_Split.c {a0 : Nat} {r : Nat × Nat} (h : eft_Split.f a0 = some r) : Con Tryz.prog Gw 67 [.s (.fl .f64 a0)] (· = .tu [.s (.fl .f64 r.1), .s (.fl .f64 r.2)]) := by
 unfold eft_Split.f at h
 obtain ⟨r1, A1, h⟩ := bnd h
 obtain ⟨r2, A2, h⟩ := bnd h
 obtain ⟨r3, A3, h⟩ := bnd h
 obtain ⟨r4, A4, h⟩ := bnd h
 have h := si h; subst h
 exact pth Tryz.func67 [.r (.s (.fl .f64 r1)), .r (.s (.fl .f64 r2)), .r (.s (.fl .f64 r3)), .r (.s (.fl .f64 r4))] (fun e => ai A1 (ai A2 (ai A3 (ai A4 e)))) (by kernel_rfl)
def eft_TwoProd.f (a0 : Nat) (a1 : Nat) : Option (Nat × Nat) := (FloatKind.f64.format.mul a0 a1).bind fun r1 => ((eft_Split.f a0).bind fun bt2 => ((eft_Split.f a1).bind fun bt3 => ((FloatKind.f64.format.mul bt2.1 bt3.1).bind fun r4 => ((FloatKind.f64.format.sub r4 r1).bind fun r5 => ((FloatKind.f64.format.mul bt2.1 bt3.2).bind fun r6 => ((FloatKind.f64.format.add r5 r6).bind fun r7 => ((FloatKind.f64.format.mul bt2.2 bt3.1).bind fun r8 => ((FloatKind.f64.format.add r7 r8).bind fun r9 => ((FloatKind.f64.format.mul bt2.2 bt3.2).bind fun r10 => ((FloatKind.f64.format.add r9 r10).bind fun r11 => (some (r1, r11))))))))))))
theorem eft_TwoProd.c {a0 : Nat} {a1 : Nat} {r : Nat × Nat} (h : eft_TwoProd.f a0 a1 = some r) : Con Tryz.prog Gw 37 [.s (.fl .f64 a0), .s (.fl .f64 a1)] (· = .tu [.s (.fl .f64 r.1), .s (.fl .f64 r.2)]) := by
 unfold eft_TwoProd.f at h
 obtain ⟨r1, A1, h⟩ := bnd h
 obtain ⟨bt2, A2, h⟩ := bnd h
 obtain ⟨bt3, A3, h⟩ := bnd h
 obtain ⟨r4, A4, h⟩ := bnd h
 obtain ⟨r5, A5, h⟩ := bnd h
 obtain ⟨r6, A6, h⟩ := bnd h
 obtain ⟨r7, A7, h⟩ := bnd h
 obtain ⟨r8, A8, h⟩ := bnd h
 obtain ⟨r9, A9, h⟩ := bnd h
 obtain ⟨r10, A10, h⟩ := bnd h
 obtain ⟨r11, A11, h⟩ := bnd h
 have h := si h; subst h
 exact pth Tryz.func37 [.r (.s (.fl .f64 r1)), .r (.tu [.s (.fl .f64 bt2.1), .s (.fl .f64 bt2.2)]), .r (.tu [.s (.fl .f64 bt3.1), .s (.fl .f64 bt3.2)]), .r (.s (.fl .f64 r4)), .r (.s (.fl .f64 r5)), .r (.s (.fl .f64 r6)), .r (.s (.fl .f64 r7)), .r (.s (.fl .f64 r8)), .r (.s (.fl .f64 r9)), .r (.s (.fl .f64 r10)), .r (.s (.fl .f64 r11))] (fun e => ai A1 (ai (eft_Split.c A2) (ai (eft_Split.c A3) (ai A4 (ai A5 (ai A6 (ai A7 (ai A8 (ai A9 (ai A10 (ai A11 e))))))))))) (by kernel_rfl)
def math_Abs.f (a0 : Nat) : Option (Nat) := some ((Go.bits .andNot .u64 (a0 : Int) 9223372036854775808).toNat)
theorem math_Abs.c {a0 : Nat} {r : Nat} (h : math_Abs.f a0 = some r) : Con Tryz.prog Gw 69 [.s (.fl .f64 a0)] (· = .s (.fl .f64 r)) := by
 unfold math_Abs.f at h
 have h := si h; subst h
 exact pth Tryz.func69 [.x (.s (.i .u64 (a0 : Int))), .x (.s (.fl .f64 ((Go.bits .andNot .u64 (a0 : Int) 9223372036854775808).toNat)))] (fun e => ai (fl_bits a0) (ai (fl_from (Go.bits .andNot .u64 (a0 : Int) 9223372036854775808)) e)) (by kernel_rfl)
def dd_finite.f (a0 : Nat) : Option (Bool) := (math_Abs.f a0).bind fun t1 => (some (FloatKind.f64.format.order t1 9218868437227405311 == some .lt || FloatKind.f64.format.order t1 9218868437227405311 == some .eq))
theorem dd_finite.c {a0 : Nat} {r : Bool} (h : dd_finite.f a0 = some r) : Con Tryz.prog Gw 39 [.s (.fl .f64 a0)] (· = .s (.b r)) := by
 unfold dd_finite.f at h
 obtain ⟨t1, A1, h⟩ := bnd h
 have h := si h; subst h
 exact pth Tryz.func39 [.r (.s (.fl .f64 t1))] (fun e => ai (math_Abs.c A1) e) (by kernel_rfl)
def dd_Form.f (a0_0 : Nat) (a0_1 : Nat) : Option (Bool) := (dd_finite.f a0_0).bind fun t1 => (if t1 = true then ((dd_finite.f a0_1).bind fun t2 => (if t2 = true then ((FloatKind.f64.format.add a0_0 a0_1).bind fun r3 => (some (FloatKind.f64.format.order r3 a0_0 == some .eq))) else (some false))) else (some false))
theorem dd_Form.c {a0_0 : Nat} {a0_1 : Nat} {r : Bool} (h : dd_Form.f a0_0 a0_1 = some r) : Con Tryz.prog Gw 34 [.ag [.fl .f64 a0_0, .fl .f64 a0_1]] (· = .s (.b r)) := by
 unfold dd_Form.f at h
 obtain ⟨t1, A1, h⟩ := bnd h
 rcases ite_e h with ⟨c2, h⟩ | ⟨c2, h⟩
 ·obtain ⟨t2, A3, h⟩ := bnd h
  rcases ite_e h with ⟨c4, h⟩ | ⟨c4, h⟩
  ·obtain ⟨r3, A5, h⟩ := bnd h
   have h := si h; subst h
   exact pth Tryz.func34 [.r (.s (.b t1)), .br true, .br true, .br true, .r (.s (.b t2)), .br true, .br true, .br true, .br true, .br true, .br true, .r (.s (.fl .f64 r3)), .br true, .br true, .br true, .br true] (fun e => ai (dd_finite.c A1) (ai c2 (ai c2 (ai c2 (ai (dd_finite.c A3) (ai c2 (ai c4 (ai c4 (ai c4 (ai c4 (ai c4 (ai A5 (ai c4 (ai c4 (ai c4 (ai c4 e)))))))))))))))) (by kernel_rfl)
  ·have h := si h; subst h
   exact pth Tryz.func34 [.r (.s (.b t1)), .br true, .br true, .br true, .r (.s (.b t2)), .br true, .br false, .br false, .br false, .br false, .br false, .br false, .br false, .br false, .br false] (fun e => ai (dd_finite.c A1) (ai c2 (ai c2 (ai c2 (ai (dd_finite.c A3) (ai c2 (ai (z0 c4) (ai (z0 c4) (ai (z0 c4) (ai (z0 c4) (ai (z0 c4) (ai (z0 c4) (ai (z0 c4) (ai (z0 c4) (ai (z0 c4) e))))))))))))))) (by kernel_rfl)
 ·have h := si h; subst h
  exact pth Tryz.func34 [.r (.s (.b t1)), .br false, .br false, .br false, .br false, .br false, .br false, .br false, .br false, .br false, .br false, .br false, .br false, .br false] (fun e => ai (dd_finite.c A1) (ai (z0 c2) (ai (z0 c2) (ai (z0 c2) (ai (z0 c2) (ai ff (ai ff (ai ff (ai ff (ai ff (ai ff (ai ff (ai ff (ai ff e)))))))))))))) (by kernel_rfl)
def dd_Value.f (k : Nat) (a0_0 : Nat) (a0_1 : Nat) : Option (Bool × List Int × Int × Int) := (dd_Form.f a0_0 a0_1).bind fun t1 => (if t1 = true then ((binary_Value.f k 64 (a0_0 : Int)).bind fun bt2 => ((binary_Value.f k 64 (a0_1 : Int)).bind fun bt3 => ((dyadic_Add.f k bt2.1 bt2.2.1 bt2.2.2.1 bt3.1 bt3.2.1 bt3.2.2.1).bind fun bt4 => (some (bt4.1, bt4.2.1, bt4.2.2.1, bt4.2.2.2))))) else (some (false, ([] : List Int), 0, 2)))
theorem dd_Value.mono : ∀ a0 a1 k, LeO (dd_Value.f k a0 a1) (dd_Value.f (k + 1) a0 a1) := by
 intro a0 a1 k
 unfold dd_Value.f
 repeat' first
  | (with_reducible exact binary_Value.mono _ _ _)
  | (with_reducible exact dyadic_Add.mono _ _ _ _ _ _ _)
  | (with_reducible exact LeO.refl _)
  | (with_reducible exact LeO.none _)
  | (with_reducible refine LeO.ite ?_ ?_)
  | (with_reducible refine LeO.bind ?_ (fun _ => ?_))
theorem dd_Value.c {k : Nat} {a0_0 : Nat} {a0_1 : Nat} {r : Bool × List Int × Int × Int} (h : dd_Value.f k a0_0 a0_1 = some r) : Con Tryz.prog Gw 22 [.ag [.fl .f64 a0_0, .fl .f64 a0_1]] (· = .tu [.ag [.b r.1, .sl .u64 r.2.1, .i .i64 r.2.2.1], .s (.i .i64 r.2.2.2)]) := by
 unfold dd_Value.f at h
 obtain ⟨t1, A1, h⟩ := bnd h
 rcases ite_e h with ⟨c2, h⟩ | ⟨c2, h⟩
 ·obtain ⟨bt2, A3, h⟩ := bnd h
  obtain ⟨bt3, A4, h⟩ := bnd h
  obtain ⟨bt4, A5, h⟩ := bnd h
  have h := si h; subst h
  exact pth Tryz.func22 [.r (.s (.b t1)), .br false, .x (.s (.i .u64 (a0_0 : Int))), .r (.tu [.ag [.b bt2.1, .sl .u64 bt2.2.1, .i .i64 bt2.2.2.1], .s (.i .i64 bt2.2.2.2)]), .x (.s (.i .u64 (a0_1 : Int))), .r (.tu [.ag [.b bt3.1, .sl .u64 bt3.2.1, .i .i64 bt3.2.2.1], .s (.i .i64 bt3.2.2.2)]), .r (.tu [.ag [.b bt4.1, .sl .u64 bt4.2.1, .i .i64 bt4.2.2.1], .s (.i .i64 bt4.2.2.2)])] (fun e => ai (dd_Form.c A1) (ai (nt1 c2) (ai (fl_bits a0_0) (ai (binary_Value.c A3) (ai (fl_bits a0_1) (ai (binary_Value.c A4) (ai (dyadic_Add.c A5) e))))))) (by kernel_rfl)
 ·have h := si h; subst h
  exact pth Tryz.func22 [.r (.s (.b t1)), .br true] (fun e => ai (dd_Form.c A1) (ai (nt0 (z0 c2)) e)) (by kernel_rfl)
def dd_Of.f (a0 : Nat) : Option (Nat × Nat) := (dd_finite.f a0).bind fun t1 => (if t1 = true then (some (a0, 0)) else (some (0, 0)))
theorem dd_Of.c {a0 : Nat} {r : Nat × Nat} (h : dd_Of.f a0 = some r) : Con Tryz.prog Gw 13 [.s (.fl .f64 a0)] (· = .ag [.fl .f64 r.1, .fl .f64 r.2]) := by
 unfold dd_Of.f at h
 obtain ⟨t1, A1, h⟩ := bnd h
 rcases ite_e h with ⟨c2, h⟩ | ⟨c2, h⟩
 ·have h := si h; subst h
  exact pth Tryz.func13 [.r (.s (.b t1)), .br false] (fun e => ai (dd_finite.c A1) (ai (nt1 c2) e)) (by kernel_rfl)
 ·have h := si h; subst h
  exact pth Tryz.func13 [.r (.s (.b t1)), .br true] (fun e => ai (dd_finite.c A1) (ai (nt0 (z0 c2)) e)) (by kernel_rfl)
def dd_pair.f (a0 : Nat) (a1 : Nat) : Option (Nat × Nat) := (eft_FastTwoSum.f a0 a1).bind fun bt1 => (some (bt1.1, bt1.2))
theorem dd_pair.c {a0 : Nat} {a1 : Nat} {r : Nat × Nat} (h : dd_pair.f a0 a1 = some r) : Con Tryz.prog Gw 38 [.s (.fl .f64 a0), .s (.fl .f64 a1)] (· = .ag [.fl .f64 r.1, .fl .f64 r.2]) := by
 unfold dd_pair.f at h
 obtain ⟨bt1, A1, h⟩ := bnd h
 have h := si h; subst h
 exact pth Tryz.func38 [.r (.tu [.s (.fl .f64 bt1.1), .s (.fl .f64 bt1.2)])] (fun e => ai (eft_FastTwoSum.c A1) e) (by kernel_rfl)
def dd_Sum.f (a0 : Nat) (a1 : Nat) : Option (Nat × Nat) := (eft_TwoSum.f a0 a1).bind fun bt1 => (some (bt1.1, bt1.2))
theorem dd_Sum.c {a0 : Nat} {a1 : Nat} {r : Nat × Nat} (h : dd_Sum.f a0 a1 = some r) : Con Tryz.prog Gw 27 [.s (.fl .f64 a0), .s (.fl .f64 a1)] (· = .ag [.fl .f64 r.1, .fl .f64 r.2]) := by
 unfold dd_Sum.f at h
 obtain ⟨bt1, A1, h⟩ := bnd h
 have h := si h; subst h
 exact pth Tryz.func27 [.r (.tu [.s (.fl .f64 bt1.1), .s (.fl .f64 bt1.2)])] (fun e => ai (eft_TwoSum.c A1) e) (by kernel_rfl)
def dd_Neg.f (a0_0 : Nat) (a0_1 : Nat) : Option (Nat × Nat) := some (Op.negFloat .f64 a0_0, Op.negFloat .f64 a0_1)
theorem dd_Neg.c {a0_0 : Nat} {a0_1 : Nat} {r : Nat × Nat} (h : dd_Neg.f a0_0 a0_1 = some r) : Con Tryz.prog Gw 64 [.ag [.fl .f64 a0_0, .fl .f64 a0_1]] (· = .ag [.fl .f64 r.1, .fl .f64 r.2]) := by
 unfold dd_Neg.f at h
 have h := si h; subst h
 exact pth Tryz.func64 [] (fun e => e) (by kernel_rfl)
def dd_Cmp.f (a0_0 : Nat) (a0_1 : Nat) (a1_0 : Nat) (a1_1 : Nat) : Option (Int) := (dd_Form.f a0_0 a0_1).bind fun t1 => (if t1 = true then ((dd_Form.f a1_0 a1_1).bind fun t2 => (if t2 = true then (if FloatKind.f64.format.order a0_0 a1_0 = some .lt then (some (-1)) else (if FloatKind.f64.format.order a0_0 a1_0 = some .eq then (if FloatKind.f64.format.order a0_1 a1_1 = some .lt then (some (-1)) else (if FloatKind.f64.format.order a0_0 a1_0 = some .gt then (some 1) else (if FloatKind.f64.format.order a0_1 a1_1 = some .gt then (some 1) else (some 0)))) else (if FloatKind.f64.format.order a0_0 a1_0 = some .gt then (some 1) else (some 0)))) else (some 0))) else (some 0))
theorem dd_Cmp.c {a0_0 : Nat} {a0_1 : Nat} {a1_0 : Nat} {a1_1 : Nat} {r : Int} (h : dd_Cmp.f a0_0 a0_1 a1_0 a1_1 = some r) : Con Tryz.prog Gw 26 [.ag [.fl .f64 a0_0, .fl .f64 a0_1], .ag [.fl .f64 a1_0, .fl .f64 a1_1]] (· = .s (.i .i64 r)) := by
 unfold dd_Cmp.f at h
 obtain ⟨t1, A1, h⟩ := bnd h
 rcases ite_e h with ⟨c2, h⟩ | ⟨c2, h⟩
 ·obtain ⟨t2, A3, h⟩ := bnd h
  rcases ite_e h with ⟨c4, h⟩ | ⟨c4, h⟩
  ·rcases ite_e h with ⟨c5, h⟩ | ⟨c5, h⟩
   ·have h := si h; subst h
    exact pth Tryz.func26 [.r (.s (.b t1)), .br false, .br false, .r (.s (.b t2)), .br false, .br false, .br false, .br true, .br true, .br true, .br true, .br true, .br true, .br true, .br true, .br true] (fun e => ai (dd_Form.c A1) (ai (nt1 c2) (ai (nt1 c2) (ai (dd_Form.c A3) (ai (nt1 c2) (ai (nt1 c2) (ai (nt1 c4) (ai (q1 c5) (ai (q1 c5) (ai (q1 c5) (ai (q1 c5) (ai (q1 c5) (ai (q1 c5) (ai (q1 c5) (ai (q1 c5) (ai tt e)))))))))))))))) (by kernel_rfl)
   ·rcases ite_e h with ⟨c6, h⟩ | ⟨c6, h⟩
    ·rcases ite_e h with ⟨c7, h⟩ | ⟨c7, h⟩
     ·have h := si h; subst h
      exact pth Tryz.func26 [.r (.s (.b t1)), .br false, .br false, .r (.s (.b t2)), .br false, .br false, .br false, .br false, .br false, .br false, .br false, .br false, .br false, .br true, .br true, .br true, .br true, .br true, .br false, .br true, .br false, .br true] (fun e => ai (dd_Form.c A1) (ai (nt1 c2) (ai (nt1 c2) (ai (dd_Form.c A3) (ai (nt1 c2) (ai (nt1 c2) (ai (nt1 c4) (ai (q0 c5) (ai (q0 c5) (ai (q0 c5) (ai (q0 c5) (ai (q0 c5) (ai (q0 c5) (ai (q1 c6) (ai (q1 c6) (ai (q1 c6) (ai (q1 c6) (ai (q1 c6) (ai (q0 c5) (ai (q1 c6) (ai (q0 c5) (ai (q1 c7) e)))))))))))))))))))))) (by kernel_rfl)
     ·rcases ite_e h with ⟨c8, h⟩ | ⟨c8, h⟩
      ·have h := si h; subst h
       exact pth Tryz.func26 [.r (.s (.b t1)), .br false, .br false, .r (.s (.b t2)), .br false, .br false, .br false, .br false, .br false, .br false, .br false, .br false, .br false, .br true, .br true, .br true, .br true, .br true, .br false, .br true, .br false, .br false, .br true, .br true, .br true, .br true, .br true, .br true, .br true, .br true, .br true] (fun e => ai (dd_Form.c A1) (ai (nt1 c2) (ai (nt1 c2) (ai (dd_Form.c A3) (ai (nt1 c2) (ai (nt1 c2) (ai (nt1 c4) (ai (q0 c5) (ai (q0 c5) (ai (q0 c5) (ai (q0 c5) (ai (q0 c5) (ai (q0 c5) (ai (q1 c6) (ai (q1 c6) (ai (q1 c6) (ai (q1 c6) (ai (q1 c6) (ai (q0 c5) (ai (q1 c6) (ai (q0 c5) (ai (q0 c7) (ai (q1 c8) (ai (q1 c8) (ai (q1 c8) (ai (q1 c8) (ai (q1 c8) (ai (q1 c8) (ai (q1 c8) (ai (q1 c8) (ai tt e))))))))))))))))))))))))))))))) (by kernel_rfl)
      ·rcases ite_e h with ⟨c9, h⟩ | ⟨c9, h⟩
       ·have h := si h; subst h
        exact pth Tryz.func26 [.r (.s (.b t1)), .br false, .br false, .r (.s (.b t2)), .br false, .br false, .br false, .br false, .br false, .br false, .br false, .br false, .br false, .br true, .br true, .br true, .br true, .br true, .br false, .br true, .br false, .br false, .br false, .br false, .br false, .br false, .br false, .br false, .br true, .br true, .br true, .br true, .br true, .br false, .br true, .br false, .br true] (fun e => ai (dd_Form.c A1) (ai (nt1 c2) (ai (nt1 c2) (ai (dd_Form.c A3) (ai (nt1 c2) (ai (nt1 c2) (ai (nt1 c4) (ai (q0 c5) (ai (q0 c5) (ai (q0 c5) (ai (q0 c5) (ai (q0 c5) (ai (q0 c5) (ai (q1 c6) (ai (q1 c6) (ai (q1 c6) (ai (q1 c6) (ai (q1 c6) (ai (q0 c5) (ai (q1 c6) (ai (q0 c5) (ai (q0 c7) (ai (q0 c8) (ai (q0 c8) (ai (q0 c8) (ai (q0 c8) (ai (q0 c8) (ai (q0 c8) (ai (q1 c6) (ai (q1 c6) (ai (q1 c6) (ai (q1 c6) (ai (q1 c6) (ai (q0 c8) (ai (q1 c6) (ai (q0 c8) (ai (q1 c9) e))))))))))))))))))))))))))))))))))))) (by kernel_rfl)
       ·have h := si h; subst h
        exact pth Tryz.func26 [.r (.s (.b t1)), .br false, .br false, .r (.s (.b t2)), .br false, .br false, .br false, .br false, .br false, .br false, .br false, .br false, .br false, .br true, .br true, .br true, .br true, .br true, .br false, .br true, .br false, .br false, .br false, .br false, .br false, .br false, .br false, .br false, .br true, .br true, .br true, .br true, .br true, .br false, .br true, .br false, .br false] (fun e => ai (dd_Form.c A1) (ai (nt1 c2) (ai (nt1 c2) (ai (dd_Form.c A3) (ai (nt1 c2) (ai (nt1 c2) (ai (nt1 c4) (ai (q0 c5) (ai (q0 c5) (ai (q0 c5) (ai (q0 c5) (ai (q0 c5) (ai (q0 c5) (ai (q1 c6) (ai (q1 c6) (ai (q1 c6) (ai (q1 c6) (ai (q1 c6) (ai (q0 c5) (ai (q1 c6) (ai (q0 c5) (ai (q0 c7) (ai (q0 c8) (ai (q0 c8) (ai (q0 c8) (ai (q0 c8) (ai (q0 c8) (ai (q0 c8) (ai (q1 c6) (ai (q1 c6) (ai (q1 c6) (ai (q1 c6) (ai (q1 c6) (ai (q0 c8) (ai (q1 c6) (ai (q0 c8) (ai (q0 c9) e))))))))))))))))))))))))))))))))))))) (by kernel_rfl)
    ·rcases ite_e h with ⟨c10, h⟩ | ⟨c10, h⟩
     ·have h := si h; subst h
      exact pth Tryz.func26 [.r (.s (.b t1)), .br false, .br false, .r (.s (.b t2)), .br false, .br false, .br false, .br false, .br false, .br false, .br false, .br false, .br false, .br false, .br false, .br false, .br false, .br false, .br false, .br false, .br false, .br false, .br true, .br true, .br true, .br true, .br true, .br true, .br true, .br true, .br true] (fun e => ai (dd_Form.c A1) (ai (nt1 c2) (ai (nt1 c2) (ai (dd_Form.c A3) (ai (nt1 c2) (ai (nt1 c2) (ai (nt1 c4) (ai (q0 c5) (ai (q0 c5) (ai (q0 c5) (ai (q0 c5) (ai (q0 c5) (ai (q0 c5) (ai (q0 c6) (ai (q0 c6) (ai (q0 c6) (ai (q0 c6) (ai (q0 c6) (ai (q0 c5) (ai (q0 c6) (ai (q0 c5) (ai ff (ai (q1 c10) (ai (q1 c10) (ai (q1 c10) (ai (q1 c10) (ai (q1 c10) (ai (q1 c10) (ai (q1 c10) (ai (q1 c10) (ai tt e))))))))))))))))))))))))))))))) (by kernel_rfl)
     ·have h := si h; subst h
      exact pth Tryz.func26 [.r (.s (.b t1)), .br false, .br false, .r (.s (.b t2)), .br false, .br false, .br false, .br false, .br false, .br false, .br false, .br false, .br false, .br false, .br false, .br false, .br false, .br false, .br false, .br false, .br false, .br false, .br false, .br false, .br false, .br false, .br false, .br false, .br false, .br false, .br false, .br false, .br false, .br false, .br false, .br false, .br false] (fun e => ai (dd_Form.c A1) (ai (nt1 c2) (ai (nt1 c2) (ai (dd_Form.c A3) (ai (nt1 c2) (ai (nt1 c2) (ai (nt1 c4) (ai (q0 c5) (ai (q0 c5) (ai (q0 c5) (ai (q0 c5) (ai (q0 c5) (ai (q0 c5) (ai (q0 c6) (ai (q0 c6) (ai (q0 c6) (ai (q0 c6) (ai (q0 c6) (ai (q0 c5) (ai (q0 c6) (ai (q0 c5) (ai ff (ai (q0 c10) (ai (q0 c10) (ai (q0 c10) (ai (q0 c10) (ai (q0 c10) (ai (q0 c10) (ai (q0 c6) (ai (q0 c6) (ai (q0 c6) (ai (q0 c6) (ai (q0 c6) (ai (q0 c10) (ai (q0 c6) (ai (q0 c10) (ai ff e))))))))))))))))))))))))))))))))))))) (by kernel_rfl)
  ·have h := si h; subst h
   exact pth Tryz.func26 [.r (.s (.b t1)), .br false, .br false, .r (.s (.b t2)), .br false, .br false, .br true] (fun e => ai (dd_Form.c A1) (ai (nt1 c2) (ai (nt1 c2) (ai (dd_Form.c A3) (ai (nt1 c2) (ai (nt1 c2) (ai (nt0 (z0 c4)) e))))))) (by kernel_rfl)
 ·have h := si h; subst h
  exact pth Tryz.func26 [.r (.s (.b t1)), .br true, .br true, .br true, .br true, .br true] (fun e => ai (dd_Form.c A1) (ai (nt0 (z0 c2)) (ai (nt0 (z0 c2)) (ai (nt0 (z0 c2)) (ai (nt0 (z0 c2)) (ai tt e)))))) (by kernel_rfl)
def dd_Add.f (a0_0 : Nat) (a0_1 : Nat) (a1_0 : Nat) (a1_1 : Nat) : Option (Nat × Nat) := (eft_TwoSum.f a0_0 a1_0).bind fun bt1 => ((eft_TwoSum.f a0_1 a1_1).bind fun bt2 => ((FloatKind.f64.format.add bt1.2 bt2.1).bind fun r3 => ((dd_pair.f bt1.1 r3).bind fun bt4 => ((FloatKind.f64.format.add bt2.2 bt4.2).bind fun r5 => ((dd_pair.f bt4.1 r5).bind fun bt6 => (some (bt6.1, bt6.2)))))))
def dd_Sub.f (a0_0 : Nat) (a0_1 : Nat) (a1_0 : Nat) (a1_1 : Nat) : Option (Nat × Nat) := (dd_Neg.f a1_0 a1_1).bind fun bt1 => ((dd_Add.f a0_0 a0_1 bt1.1 bt1.2).bind fun bt2 => (some (bt2.1, bt2.2)))
end Go.Proofs.YtapikmfckpgjoaaGreatDoor.PLib
