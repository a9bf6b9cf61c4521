/- Functions of the program as plain Lean functions (definitions as the print's), and that the machine's calls do what they do (contracts 'X.c', by Px). Condition: math/bits' table is laid. -/
import Derived.Test.YtelfmddcjlocpaaDoorKRoundInsidePxBr
import Derived.Test.YtelfmddcjlocpaaDoorKRoundInsidePRefx0
import Derived.Test.YtelfmddcjlocpaaDoorKRoundInsidePxRef
import Derived.Test.YtelfmddcjlocpaaDoorKRoundInsidePxL1
set_option linter.unusedVariables false
namespace Go.Proofs.YtelfmddcjlocpaaDoor.PLib
open Go Go.RowKit Go.Proofs.YtelfmddcjlocpaaDoorW.PrintWords Go.Proofs.YtelfmddcjlocpaaDoorW.PrintMore Go.Proofs.YtelfmddcjlocpaaDoor.Given Go.Proofs.YtelfmddcjlocpaaDoor.Px Go.Proofs.YtelfmddcjlocpaaDoor.PRef
def binary_Mid.f (k : Nat) (a0 : Int) (a1 : Int) : Option (Bool × List Int × Int × Int) := (binary_finite.f k a0 a1).bind fun bt500 => (if bt500.2.2.2.2.2.2 = 0 then ((binary_shape_parts.f bt500.1 bt500.2.1 bt500.2.2.1 bt500.2.2.2.1 bt500.2.2.2.2.2.1).bind fun bt508 => ((binary_number.f k bt500.2.2.2.2.1 (IntKind.u64.wrap ((IntKind.u64.wrap (2 * bt508.1)) + 1)) (wrap64 (bt508.2 - 1))).bind fun bt510 => (some (bt510.1, bt510.2.1, bt510.2.2.1, bt510.2.2.2)))) else (some (false, ([] : List Int), 0, bt500.2.2.2.2.2.2)))
theorem binary_Mid.mono : ∀ a0 a1 k, LeO (binary_Mid.f k a0 a1) (binary_Mid.f (k + 1) a0 a1) := by
 intro a0 a1 k
 unfold binary_Mid.f
 repeat' first
   | (with_reducible exact binary_finite.mono _ _ _)
   | (with_reducible exact binary_number.mono _ _ _ _)
   | (with_reducible exact LeO.refl _)
   | (with_reducible exact LeO.none _)
   | (with_reducible refine LeO.ite ?_ ?_)
   | (with_reducible refine LeO.bind ?_ (fun _ => ?_))
   | exact binary_finite.mono _ _ _
   | exact binary_number.mono _ _ _ _
   | exact LeO.none _
   | refine LeO.ite ?_ ?_
   | refine LeO.bind ?_ (fun _ => ?_)
theorem binary_Mid.c {k : Nat} {a0 : Int} {a1 : Int} {r : Bool × List Int × Int × Int} (h : binary_Mid.f k a0 a1 = some r) : Con Tryd.prog Gw 25 [.s (.i .i64 a0), .s (.i .u64 a1)] (· = .tu [.ag [.b r.1, .sl .u64 r.2.1, .i .i64 r.2.2.1], .s (.i .i64 r.2.2.2)]) := by
 unfold binary_Mid.f at h
 obtain ⟨bt500, A1, h⟩ := bnd h
 rcases ite_e h with ⟨c2, h⟩ | ⟨c2, h⟩
 ·obtain ⟨bt508, A3, h⟩ := bnd h
  obtain ⟨bt510, A4, h⟩ := bnd h
  have h := si h; subst h
  exact pth Tryd.func25 [.r (.tu [.ag [.i .i64 bt500.1, .i .i64 bt500.2.1, .i .i64 bt500.2.2.1, .i .u64 bt500.2.2.2.1], .s (.b bt500.2.2.2.2.1), .s (.i .u64 bt500.2.2.2.2.2.1), .s (.i .i64 bt500.2.2.2.2.2.2)]), .br false, .r (.tu [.s (.i .u64 bt508.1), .s (.i .i64 bt508.2)]), .r (.tu [.ag [.b bt510.1, .sl .u64 bt510.2.1, .i .i64 bt510.2.2.1], .s (.i .i64 bt510.2.2.2)])] (fun e => ai (binary_finite.c A1) (ai (n0 c2) (ai (binary_shape_parts.c A3) (ai (binary_number.c A4) e)))) (by kernel_rfl)
 ·have h := si h; subst h
  exact pth Tryd.func25 [.r (.tu [.ag [.i .i64 bt500.1, .i .i64 bt500.2.1, .i .i64 bt500.2.2.1, .i .u64 bt500.2.2.2.1], .s (.b bt500.2.2.2.2.1), .s (.i .u64 bt500.2.2.2.2.2.1), .s (.i .i64 bt500.2.2.2.2.2.2)]), .br true] (fun e => ai (binary_finite.c A1) (ai (n1 c2) e)) (by kernel_rfl)
def binary_shape_class.f (a0_0 : Int) (a0_1 : Int) (a0_2 : Int) (a0_3 : Int) (a1 : Int) : Option (Int) := if a1 = 0 then (some 0) else ((binary_shape_hidden.f a0_0 a0_1 a0_2 a0_3).bind fun t517 => (if a1 < t517 then (some 1) else ((binary_shape_inf.f a0_0 a0_1 a0_2 a0_3).bind fun t518 => (if a1 < t518 then (some 2) else ((binary_shape_inf.f a0_0 a0_1 a0_2 a0_3).bind fun t519 => (if a1 = t519 then (some 3) else (some 4)))))))
theorem binary_shape_class.c {a0_0 : Int} {a0_1 : Int} {a0_2 : Int} {a0_3 : Int} {a1 : Int} {r : Int} (h : binary_shape_class.f a0_0 a0_1 a0_2 a0_3 a1 = some r) : Con Tryd.prog Gw 78 [.ag [.i .i64 a0_0, .i .i64 a0_1, .i .i64 a0_2, .i .u64 a0_3], .s (.i .u64 a1)] (· = .s (.i .i64 r)) := by
 unfold binary_shape_class.f at h
 rcases ite_e h with ⟨c1, h⟩ | ⟨c1, h⟩
 ·have h := si h; subst h
  exact pth Tryd.func78 [.br true] (fun e => ai (q1 c1) e) (by kernel_rfl)
 ·obtain ⟨t517, A2, h⟩ := bnd h
  rcases ite_e h with ⟨c3, h⟩ | ⟨c3, h⟩
  ·have h := si h; subst h
   exact pth Tryd.func78 [.br false, .r (.s (.i .u64 t517)), .br true] (fun e => ai (q0 c1) (ai (binary_shape_hidden.c A2) (ai (d1 c3) e))) (by kernel_rfl)
  ·obtain ⟨t518, A4, h⟩ := bnd h
   rcases ite_e h with ⟨c5, h⟩ | ⟨c5, h⟩
   ·have h := si h; subst h
    exact pth Tryd.func78 [.br false, .r (.s (.i .u64 t517)), .br false, .r (.s (.i .u64 t518)), .br true] (fun e => ai (q0 c1) (ai (binary_shape_hidden.c A2) (ai (d0 c3) (ai (binary_shape_inf.c A4) (ai (d1 c5) e))))) (by kernel_rfl)
   ·obtain ⟨t519, A6, h⟩ := bnd h
    rcases ite_e h with ⟨c7, h⟩ | ⟨c7, h⟩
    ·have h := si h; subst h
     exact pth Tryd.func78 [.br false, .r (.s (.i .u64 t517)), .br false, .r (.s (.i .u64 t518)), .br false, .r (.s (.i .u64 t519)), .br true] (fun e => ai (q0 c1) (ai (binary_shape_hidden.c A2) (ai (d0 c3) (ai (binary_shape_inf.c A4) (ai (d0 c5) (ai (binary_shape_inf.c A6) (ai (q1 c7) e))))))) (by kernel_rfl)
    ·have h := si h; subst h
     exact pth Tryd.func78 [.br false, .r (.s (.i .u64 t517)), .br false, .r (.s (.i .u64 t518)), .br false, .r (.s (.i .u64 t519)), .br false] (fun e => ai (q0 c1) (ai (binary_shape_hidden.c A2) (ai (d0 c3) (ai (binary_shape_inf.c A4) (ai (d0 c5) (ai (binary_shape_inf.c A6) (ai (q0 c7) e))))))) (by kernel_rfl)
def binary_ClassOf.f (k : Nat) (a0 : Int) (a1 : Int) : Option (Int × Int) := (binary_take.f k a0 a1).bind fun bt520 => (if bt520.2.2.2.2.2.2 = 0 then ((binary_shape_class.f bt520.1 bt520.2.1 bt520.2.2.1 bt520.2.2.2.1 bt520.2.2.2.2.2.1).bind fun t528 => (some (t528, 0))) else (some (0, bt520.2.2.2.2.2.2)))
theorem binary_ClassOf.mono : ∀ a0 a1 k, LeO (binary_ClassOf.f k a0 a1) (binary_ClassOf.f (k + 1) a0 a1) := by
 intro a0 a1 k
 unfold binary_ClassOf.f
 repeat' first
   | (with_reducible exact binary_take.mono _ _ _)
   | (with_reducible exact LeO.refl _)
   | (with_reducible exact LeO.none _)
   | (with_reducible refine LeO.ite ?_ ?_)
   | (with_reducible refine LeO.bind ?_ (fun _ => ?_))
   | exact binary_take.mono _ _ _
   | exact LeO.none _
   | refine LeO.ite ?_ ?_
   | refine LeO.bind ?_ (fun _ => ?_)
theorem binary_ClassOf.c {k : Nat} {a0 : Int} {a1 : Int} {r : Int × Int} (h : binary_ClassOf.f k a0 a1 = some r) : Con Tryd.prog Gw 46 [.s (.i .i64 a0), .s (.i .u64 a1)] (· = .tu [.s (.i .i64 r.1), .s (.i .i64 r.2)]) := by
 unfold binary_ClassOf.f at h
 obtain ⟨bt520, A1, h⟩ := bnd h
 rcases ite_e h with ⟨c2, h⟩ | ⟨c2, h⟩
 ·obtain ⟨t528, A3, h⟩ := bnd h
  have h := si h; subst h
  exact pth Tryd.func46 [.r (.tu [.ag [.i .i64 bt520.1, .i .i64 bt520.2.1, .i .i64 bt520.2.2.1, .i .u64 bt520.2.2.2.1], .s (.b bt520.2.2.2.2.1), .s (.i .u64 bt520.2.2.2.2.2.1), .s (.i .i64 bt520.2.2.2.2.2.2)]), .br false, .r (.s (.i .i64 t528))] (fun e => ai (binary_take.c A1) (ai (n0 c2) (ai (binary_shape_class.c A3) e))) (by kernel_rfl)
 ·have h := si h; subst h
  exact pth Tryd.func46 [.r (.tu [.ag [.i .i64 bt520.1, .i .i64 bt520.2.1, .i .i64 bt520.2.2.1, .i .u64 bt520.2.2.2.1], .s (.b bt520.2.2.2.2.1), .s (.i .u64 bt520.2.2.2.2.2.1), .s (.i .i64 bt520.2.2.2.2.2.2)]), .br true] (fun e => ai (binary_take.c A1) (ai (n1 c2) e)) (by kernel_rfl)
def round_Cell.j0 : Nat → Int → Int → Bool → Option (Bool × List Int × Int × Bool × List Int × Int × Bool × Int)
 | 0, _, _, _ => none
 | k + 1, x0, x1, x25 => if x25 = true then (some (false, ([] : List Int), 0, false, ([] : List Int), 0, false, 6)) else ((binary_Mid.f k x0 x1).bind fun bt532 => ((binary_Mid.f k x0 (IntKind.u64.wrap (x1 - 1))).bind fun bt539 => (if bt532.1 = true then (some (bt532.1, bt532.2.1, bt532.2.2.1, bt539.1, bt539.2.1, bt539.2.2.1, ((Go.bits .and .u64 x1 1) == 0), 0)) else (some (bt539.1, bt539.2.1, bt539.2.2.1, bt532.1, bt532.2.1, bt532.2.2.1, ((Go.bits .and .u64 x1 1) == 0), 0)))))
def round_Cell.f (k : Nat) (a0 : Int) (a1 : Int) : Option (Bool × List Int × Int × Bool × List Int × Int × Bool × Int) := (binary_ClassOf.f k a0 a1).bind fun bt530 => (if bt530.2 = 0 then (if bt530.1 = 0 then (round_Cell.j0 k a0 a1 (bt530.1 == 0)) else (if bt530.1 = 3 then (round_Cell.j0 k a0 a1 (bt530.1 == 3)) else (round_Cell.j0 k a0 a1 (bt530.1 == 4)))) else (some (false, ([] : List Int), 0, false, ([] : List Int), 0, false, bt530.2)))
theorem round_Cell.mono_l : ∀ k, (∀ y0 y1 y2, LeO (round_Cell.j0 k y0 y1 y2) (round_Cell.j0 (k + 1) y0 y1 y2))
 | 0 => fun _ _ _ r h => by simp [round_Cell.j0] at h
 | k + 1 => by
  have ih0 := round_Cell.mono_l k
  ·intro y0 y1 y2
   unfold round_Cell.j0
   repeat' first
   | (with_reducible exact ih0 _ _ _)
   | (with_reducible exact binary_ClassOf.mono _ _ _)
   | (with_reducible exact binary_Mid.mono _ _ _)
   | (with_reducible exact LeO.refl _)
   | (with_reducible exact LeO.none _)
   | (with_reducible refine LeO.ite ?_ ?_)
   | (with_reducible refine LeO.bind ?_ (fun _ => ?_))
   | exact ih0 _ _ _
   | exact binary_ClassOf.mono _ _ _
   | exact binary_Mid.mono _ _ _
   | exact LeO.none _
   | refine LeO.ite ?_ ?_
   | refine LeO.bind ?_ (fun _ => ?_)
theorem round_Cell.mono : ∀ a0 a1 k, LeO (round_Cell.f k a0 a1) (round_Cell.f (k + 1) a0 a1) := by
 intro a0 a1 k
 have ih0 := round_Cell.mono_l k
 unfold round_Cell.f
 repeat' first
   | (with_reducible exact ih0 _ _ _)
   | (with_reducible exact binary_ClassOf.mono _ _ _)
   | (with_reducible exact binary_Mid.mono _ _ _)
   | (with_reducible exact LeO.refl _)
   | (with_reducible exact LeO.none _)
   | (with_reducible refine LeO.ite ?_ ?_)
   | (with_reducible refine LeO.bind ?_ (fun _ => ?_))
   | exact ih0 _ _ _
   | exact binary_ClassOf.mono _ _ _
   | exact binary_Mid.mono _ _ _
   | exact LeO.none _
   | refine LeO.ite ?_ ?_
   | refine LeO.bind ?_ (fun _ => ?_)
theorem round_Cell.jc : ∀ k : Nat, (∀ (x0 : Int) (x1 : Int) (x25 : Bool) (r : Bool × List Int × Int × Bool × List Int × Int × Bool × Int), round_Cell.j0 k x0 x1 x25 = some r → Fin Tryd.prog Gw 19 (nav (bodyOf Tryd.f19) [1, 1, 1, 0, 1, 0, 1] []) ⟨mkT 57 [(0, .s (.i .i64 x0)), (1, .s (.i .u64 x1)), (4, .s (.lo 0 0)), (25, .s (.b x25))], [some (28, [.b false, .sl .u64 ([]), .i .i64 0, .b false, .sl .u64 ([]), .i .i64 0])]⟩ (· = .tu [.ag [.b r.1, .sl .u64 r.2.1, .i .i64 r.2.2.1, .b r.2.2.2.1, .sl .u64 r.2.2.2.2.1, .i .i64 r.2.2.2.2.2.1], .s (.b r.2.2.2.2.2.2.1), .s (.i .i64 r.2.2.2.2.2.2.2)]))
 | 0 => (fun _ _ _ _ h => nn h)
 | k + 1 => by
  have ih := round_Cell.jc k
  ·intro x0 x1 x25 r h
   rw [round_Cell.j0] at h
   rcases ite_e h with ⟨c1, h⟩ | ⟨c1, h⟩
   ·have h := si h; subst h
    exact jth Tryd.func19 [.br true] (fun e => ai c1 e) (by kernel_rfl)
   ·obtain ⟨bt532, A2, h⟩ := bnd h
    obtain ⟨bt539, A3, h⟩ := bnd h
    rcases ite_e h with ⟨c4, h⟩ | ⟨c4, h⟩
    ·have h := si h; subst h
     exact jth Tryd.func19 [.br false, .r (.tu [.ag [.b bt532.1, .sl .u64 bt532.2.1, .i .i64 bt532.2.2.1], .s (.i .i64 bt532.2.2.2)]), .r (.tu [.ag [.b bt539.1, .sl .u64 bt539.2.1, .i .i64 bt539.2.2.1], .s (.i .i64 bt539.2.2.2)]), .br true] (fun e => ai (z0 c1) (ai (binary_Mid.c A2) (ai (binary_Mid.c A3) (ai c4 e)))) (by kernel_rfl)
    ·have h := si h; subst h
     exact jth Tryd.func19 [.br false, .r (.tu [.ag [.b bt532.1, .sl .u64 bt532.2.1, .i .i64 bt532.2.2.1], .s (.i .i64 bt532.2.2.2)]), .r (.tu [.ag [.b bt539.1, .sl .u64 bt539.2.1, .i .i64 bt539.2.2.1], .s (.i .i64 bt539.2.2.2)]), .br false] (fun e => ai (z0 c1) (ai (binary_Mid.c A2) (ai (binary_Mid.c A3) (ai (z0 c4) e)))) (by kernel_rfl)
theorem round_Cell.c {k : Nat} {a0 : Int} {a1 : Int} {r : Bool × List Int × Int × Bool × List Int × Int × Bool × Int} (h : round_Cell.f k a0 a1 = some r) : Con Tryd.prog Gw 19 [.s (.i .i64 a0), .s (.i .u64 a1)] (· = .tu [.ag [.b r.1, .sl .u64 r.2.1, .i .i64 r.2.2.1, .b r.2.2.2.1, .sl .u64 r.2.2.2.2.1, .i .i64 r.2.2.2.2.2.1], .s (.b r.2.2.2.2.2.2.1), .s (.i .i64 r.2.2.2.2.2.2.2)]) := by
 unfold round_Cell.f at h
 obtain ⟨bt530, A1, h⟩ := bnd h
 rcases ite_e h with ⟨c2, h⟩ | ⟨c2, h⟩
 ·rcases ite_e h with ⟨c3, h⟩ | ⟨c3, h⟩
  ·exact pth Tryd.func19 [.r (.tu [.s (.i .i64 bt530.1), .s (.i .i64 bt530.2)]), .br false, .br true, .cut 0 [0, 1, 4, 25] [0] []] (fun _ => ai (binary_ClassOf.c A1) (ai (n0 c2) (ai (q1 c3) (round_Cell.jc k _ _ _ _ h)))) (by kernel_rfl)
  ·rcases ite_e h with ⟨c4, h⟩ | ⟨c4, h⟩
   ·exact pth Tryd.func19 [.r (.tu [.s (.i .i64 bt530.1), .s (.i .i64 bt530.2)]), .br false, .br false, .br true, .cut 0 [0, 1, 4, 25] [0] []] (fun _ => ai (binary_ClassOf.c A1) (ai (n0 c2) (ai (q0 c3) (ai (q1 c4) (round_Cell.jc k _ _ _ _ h))))) (by kernel_rfl)
   ·exact pth Tryd.func19 [.r (.tu [.s (.i .i64 bt530.1), .s (.i .i64 bt530.2)]), .br false, .br false, .br false, .cut 1 [0, 1, 4, 25] [0] []] (fun _ => ai (binary_ClassOf.c A1) (ai (n0 c2) (ai (q0 c3) (ai (q0 c4) (round_Cell.jc k _ _ _ _ h))))) (by kernel_rfl)
 ·have h := si h; subst h
  exact pth Tryd.func19 [.r (.tu [.s (.i .i64 bt530.1), .s (.i .i64 bt530.2)]), .br true] (fun e => ai (binary_ClassOf.c A1) (ai (n1 c2) e)) (by kernel_rfl)
def gnomonlaw08_pat.f (a0 : Bool) (a1 : Int) : Option (Int) := if a0 = true then (some (Go.bits .and .u64 a1 4294967295)) else (some a1)
def gnomonref01_Same.l0 : Nat → List Int → List Int → Int → Option (Bool)
 | 0, _, _, _ => none
 | k + 1, x0, x1, x5 => if x5 < (x0.length : Int) then (if 0 ≤ x5 then (if x5 < (x1.length : Int) then (if (rd x0 x5) = (rd x1 x5) then (gnomonref01_Same.l0 k x0 x1 (wrap64 (x5 + 1))) else (some false)) else (none)) else (none)) else (some true)
def gnomonref01_Same.f (k : Nat) (l0 : List Int) (l1 : List Int) : Option (Bool) := if (l0.length : Int) = (l1.length : Int) then (gnomonref01_Same.l0 k l0 l1 0) else (some false)
theorem gnomonref01_Same.mono_l : ∀ k, (∀ y0 y1 y2, LeO (gnomonref01_Same.l0 k y0 y1 y2) (gnomonref01_Same.l0 (k + 1) y0 y1 y2))
 | 0 => fun _ _ _ r h => by simp [gnomonref01_Same.l0] at h
 | k + 1 => by
  have ih0 := gnomonref01_Same.mono_l k
  ·intro y0 y1 y2
   unfold gnomonref01_Same.l0
   repeat' first
   | (with_reducible exact ih0 _ _ _)
   | (with_reducible exact LeO.refl _)
   | (with_reducible exact LeO.none _)
   | (with_reducible refine LeO.ite ?_ ?_)
   | (with_reducible refine LeO.bind ?_ (fun _ => ?_))
   | exact ih0 _ _ _
   | exact LeO.none _
   | refine LeO.ite ?_ ?_
   | refine LeO.bind ?_ (fun _ => ?_)
theorem gnomonref01_Same.mono : ∀ a0 a1 k, LeO (gnomonref01_Same.f k a0 a1) (gnomonref01_Same.f (k + 1) a0 a1) := by
 intro a0 a1 k
 have ih0 := gnomonref01_Same.mono_l k
 unfold gnomonref01_Same.f
 repeat' first
   | (with_reducible exact ih0 _ _ _)
   | (with_reducible exact LeO.refl _)
   | (with_reducible exact LeO.none _)
   | (with_reducible refine LeO.ite ?_ ?_)
   | (with_reducible refine LeO.bind ?_ (fun _ => ?_))
   | exact ih0 _ _ _
   | exact LeO.none _
   | refine LeO.ite ?_ ?_
   | refine LeO.bind ?_ (fun _ => ?_)
def gnomonref05_Same.f (k : Nat) (a0_0 : Bool) (l0_1 : List Int) (a0_2 : Int) (a1_0 : Bool) (l1_1 : List Int) (a1_2 : Int) : Option (Bool) := if (a0_0 == a1_0) = true then (if a0_2 = a1_2 then ((gnomonref01_Same.f k l0_1 l1_1).bind fun t550 => (some t550)) else (some false)) else (some false)
theorem gnomonref05_Same.mono : ∀ a0 a1 a2 a3 a4 a5 k, LeO (gnomonref05_Same.f k a0 a1 a2 a3 a4 a5) (gnomonref05_Same.f (k + 1) a0 a1 a2 a3 a4 a5) := by
 intro a0 a1 a2 a3 a4 a5 k
 unfold gnomonref05_Same.f
 repeat' first
   | (with_reducible exact gnomonref01_Same.mono _ _ _)
   | (with_reducible exact LeO.refl _)
   | (with_reducible exact LeO.none _)
   | (with_reducible refine LeO.ite ?_ ?_)
   | (with_reducible refine LeO.bind ?_ (fun _ => ?_))
   | exact gnomonref01_Same.mono _ _ _
   | exact LeO.none _
   | refine LeO.ite ?_ ?_
   | refine LeO.bind ?_ (fun _ => ?_)
def gnomonlaw08_spans.f (k : Nat) (a0_0 : Bool) (l0_1 : List Int) (a0_2 : Int) (a0_3 : Bool) (l0_4 : List Int) (a0_5 : Int) (a1_0 : Bool) (l1_1 : List Int) (a1_2 : Int) (a1_3 : Bool) (l1_4 : List Int) (a1_5 : Int) : Option (Bool) := (gnomonref05_Same.f k a0_0 l0_1 a0_2 a1_0 l1_1 a1_2).bind fun t553 => (if t553 = true then ((gnomonref05_Same.f k a0_3 l0_4 a0_5 a1_3 l1_4 a1_5).bind fun t554 => (some t554)) else (some false))
theorem gnomonlaw08_spans.mono : ∀ a0 a1 a2 a3 a4 a5 a6 a7 a8 a9 a10 a11 k, LeO (gnomonlaw08_spans.f k a0 a1 a2 a3 a4 a5 a6 a7 a8 a9 a10 a11) (gnomonlaw08_spans.f (k + 1) a0 a1 a2 a3 a4 a5 a6 a7 a8 a9 a10 a11) := by
 intro a0 a1 a2 a3 a4 a5 a6 a7 a8 a9 a10 a11 k
 unfold gnomonlaw08_spans.f
 repeat' first
   | (with_reducible exact gnomonref05_Same.mono _ _ _ _ _ _ _)
   | (with_reducible exact LeO.refl _)
   | (with_reducible exact LeO.none _)
   | (with_reducible refine LeO.ite ?_ ?_)
   | (with_reducible refine LeO.bind ?_ (fun _ => ?_))
   | exact gnomonref05_Same.mono _ _ _ _ _ _ _
   | exact LeO.none _
   | refine LeO.ite ?_ ?_
   | refine LeO.bind ?_ (fun _ => ?_)
def binary_rank.f (k : Nat) (a0 : Int) (a1 : Int) : Option (Int × Int × Int × Int × Int × Int) := (binary_take.f k a0 a1).bind fun bt556 => (if bt556.2.2.2.2.2.2 = 0 then ((binary_shape_inf.f bt556.1 bt556.2.1 bt556.2.2.1 bt556.2.2.2.1).bind fun t564 => (if bt556.2.2.2.2.2.1 > t564 then (some (bt556.1, bt556.2.1, bt556.2.2.1, bt556.2.2.2.1, 0, 6)) else (if bt556.2.2.2.2.1 = true then (some (bt556.1, bt556.2.1, bt556.2.2.1, bt556.2.2.2.1, wrap64 (-(wrap64 (bt556.2.2.2.2.2.1))), 0)) else (some (bt556.1, bt556.2.1, bt556.2.2.1, bt556.2.2.2.1, wrap64 (bt556.2.2.2.2.2.1), 0))))) else (some (bt556.1, bt556.2.1, bt556.2.2.1, bt556.2.2.2.1, 0, bt556.2.2.2.2.2.2)))
def binary_shape_made.f (a0_0 : Int) (a0_1 : Int) (a0_2 : Int) (a0_3 : Int) (a1 : Bool) (a2 : Int) : Option (Int) := if a1 = true then ((binary_shape_sign.f a0_0 a0_1 a0_2 a0_3).bind fun t566 => (some (Go.bits .or .u64 a2 t566))) else (some a2)
def binary_Next.f (k : Nat) (a0 : Int) (a1 : Int) : Option (Int × Int) := (binary_rank.f k a0 a1).bind fun bt567 => (if bt567.2.2.2.2.2 = 0 then ((binary_shape_inf.f bt567.1 bt567.2.1 bt567.2.2.1 bt567.2.2.2.1).bind fun t574 => (if bt567.2.2.2.2.1 = (wrap64 (t574)) then (some (0, 6)) else (if bt567.2.2.2.2.1 < 0 then ((binary_shape_made.f bt567.1 bt567.2.1 bt567.2.2.1 bt567.2.2.2.1 true (IntKind.u64.wrap (wrap64 ((wrap64 (-bt567.2.2.2.2.1)) - 1)))).bind fun t575 => (some (t575, 0))) else ((binary_shape_made.f bt567.1 bt567.2.1 bt567.2.2.1 bt567.2.2.2.1 false (IntKind.u64.wrap (wrap64 (bt567.2.2.2.2.1 + 1)))).bind fun t576 => (some (t576, 0)))))) else (some (0, bt567.2.2.2.2.2)))
def binary_Rank.f (k : Nat) (a0 : Int) (a1 : Int) : Option (Int × Int) := (binary_rank.f k a0 a1).bind fun bt577 => (some (bt577.2.2.2.2.1, bt577.2.2.2.2.2))
def gnomonlaw08_rank.f (k : Nat) (a0 : Int) (a1 : Int) : Option (Int) := (binary_Rank.f k a0 a1).bind fun bt584 => (some bt584.1)
end Go.Proofs.YtelfmddcjlocpaaDoor.PLib
