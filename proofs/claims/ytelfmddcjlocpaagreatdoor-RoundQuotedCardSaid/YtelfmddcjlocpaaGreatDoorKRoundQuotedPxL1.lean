/- Functions of the program as plain Lean functions (definitions as the print's), and that the machine's calls do what they do (contracts 'X.c', by Px). Condition: math/bits' table is laid. -/
import Derived.Test.YtelfmddcjlocpaaGreatDoorKRoundQuotedGivenD
import Derived.Test.YtelfmddcjlocpaaGreatDoorKRoundQuotedPxTz
import Derived.Test.YtelfmddcjlocpaaGreatDoorKRoundQuotedPxL0
set_option linter.unusedVariables false
namespace Go.Proofs.YtelfmddcjlocpaaGreatDoor.PLib
open Go Go.RowKit Go.Proofs.YtelfmddcjlocpaaGreatDoorW.PrintWords Go.Proofs.YtelfmddcjlocpaaGreatDoorW.PrintMore Go.Proofs.YtelfmddcjlocpaaGreatDoor.Given Go.Proofs.YtelfmddcjlocpaaGreatDoor.Px
def num_way_shr.j0 : Nat → Int → Int → List Int → Bool → Bool → List Int → Option (Bool × List Int × Int)
 | 0, _, _, _, _, _, _ => none
 | k + 1, x0, x2, x8, x10, x363000, x363001 => (nat_Bit.f k x363001 (wrap64 (x2 - 1))).bind fun t370 => (if t370 = true then ((nat_Trail.f x363001).bind fun t371 => (if t371 = (wrap64 (x2 - 1)) then ((num_way_made.f k x0 x363000 x8 x10 0).bind fun bt372 => (some (bt372.1, bt372.2.1, bt372.2.2))) else ((num_way_made.f k x0 x363000 x8 x10 1).bind fun bt377 => (some (bt377.1, bt377.2.1, bt377.2.2))))) else ((num_way_made.f k x0 x363000 x8 x10 (-1)).bind fun bt382 => (some (bt382.1, bt382.2.1, bt382.2.2))))
def num_way_shr.f (k : Nat) (a0 : Int) (a1_0 : Bool) (l1_1 : List Int) (a2 : Int) : Option (Bool × List Int × Int) := if a2 < 0 then (some (false, ([] : List Int), 1)) else ((num_Form.f a1_0 l1_1).bind fun t364 => (if t364 = true then ((nat_Shr.f l1_1 a2).bind fun bt365 => (if bt365.2 = 0 then (if (l1_1.length : Int) > 0 then ((nat_Trail.f l1_1).bind fun t369 => (num_way_shr.j0 k a0 a2 bt365.1 (decide (t369 < a2)) a1_0 l1_1)) else (num_way_shr.j0 k a0 a2 bt365.1 false a1_0 l1_1)) else (some (false, ([] : List Int), bt365.2)))) else (some (false, ([] : List Int), 2))))
theorem num_way_shr.mono_l : ∀ k, (∀ y0 y1 y2 y3 y4 y5, LeO (num_way_shr.j0 k y0 y1 y2 y3 y4 y5) (num_way_shr.j0 (k + 1) y0 y1 y2 y3 y4 y5))
 | 0 => fun _ _ _ _ _ _ r h => by simp [num_way_shr.j0] at h
 | k + 1 => by
  have ih0 := num_way_shr.mono_l k
  ·intro y0 y1 y2 y3 y4 y5
   unfold num_way_shr.j0
   repeat' first
   | (with_reducible exact ih0 _ _ _ _ _ _)
   | (with_reducible exact nat_Bit.mono _ _ _)
   | (with_reducible exact num_way_made.mono _ _ _ _ _ _)
   | (with_reducible exact LeO.refl _)
   | (with_reducible exact LeO.none _)
   | (with_reducible refine LeO.ite ?_ ?_)
   | (with_reducible refine LeO.bind ?_ (fun _ => ?_))
   | exact ih0 _ _ _ _ _ _
   | exact nat_Bit.mono _ _ _
   | exact num_way_made.mono _ _ _ _ _ _
   | exact LeO.none _
   | refine LeO.ite ?_ ?_
   | refine LeO.bind ?_ (fun _ => ?_)
theorem num_way_shr.mono : ∀ a0 a1 a2 a3 k, LeO (num_way_shr.f k a0 a1 a2 a3) (num_way_shr.f (k + 1) a0 a1 a2 a3) := by
 intro a0 a1 a2 a3 k
 have ih0 := num_way_shr.mono_l k
 unfold num_way_shr.f
 repeat' first
   | (with_reducible exact ih0 _ _ _ _ _ _)
   | (with_reducible exact nat_Bit.mono _ _ _)
   | (with_reducible exact num_way_made.mono _ _ _ _ _ _)
   | (with_reducible exact LeO.refl _)
   | (with_reducible exact LeO.none _)
   | (with_reducible refine LeO.ite ?_ ?_)
   | (with_reducible refine LeO.bind ?_ (fun _ => ?_))
   | exact ih0 _ _ _ _ _ _
   | exact nat_Bit.mono _ _ _
   | exact num_way_made.mono _ _ _ _ _ _
   | exact LeO.none _
   | refine LeO.ite ?_ ?_
   | refine LeO.bind ?_ (fun _ => ?_)
theorem num_way_shr.jc : ∀ k : Nat, (∀ (x0 : Int) (x2 : Int) (x8 : List Int) (x10 : Bool) (x363000 : Bool) (x363001 : List Int) (r : Bool × List Int × Int), num_way_shr.j0 k x0 x2 x8 x10 x363000 x363001 = some r → Fin Tryz.prog Gw 126 (nav (bodyOf Tryz.f126) [1, 1, 1, 1, 1, 1, 0] []) ⟨mkT 61 [(0, .s (.i .i64 x0)), (2, .s (.i .i64 x2)), (4, .s (.lo 0 0)), (6, .s (.lo 1 0)), (8, .s (.sl .u64 x8)), (10, .s (.b x10))], [some (24, [.b x363000, .sl .u64 x363001]), some (24, [.b false, .sl .u64 ([])])]⟩ (· = .tu [.ag [.b r.1, .sl .u64 r.2.1], .s (.i .i64 r.2.2)]))
 | 0 => (fun _ _ _ _ _ _ _ h => nn h)
 | k + 1 => by
  have ih := num_way_shr.jc k
  ·intro x0 x2 x8 x10 x363000 x363001 r h
   rw [num_way_shr.j0] at h
   obtain ⟨t370, A1, h⟩ := bnd h
   rcases ite_e h with ⟨c2, h⟩ | ⟨c2, h⟩
   ·obtain ⟨t371, A3, h⟩ := bnd h
    rcases ite_e h with ⟨c4, h⟩ | ⟨c4, h⟩
    ·obtain ⟨bt372, A5, h⟩ := bnd h
     have h := si h; subst h
     exact jth Tryz.func126 [.r (.s (.b t370)), .br true, .r (.s (.i .i64 t371)), .br true, .r (.tu [.ag [.b bt372.1, .sl .u64 bt372.2.1], .s (.i .i64 bt372.2.2)])] (fun e => ai (nat_Bit.c A1) (ai c2 (ai (nat_Trail.c A3) (ai (q1 c4) (ai (num_way_made.c A5) e))))) (by kernel_rfl)
    ·obtain ⟨bt377, A6, h⟩ := bnd h
     have h := si h; subst h
     exact jth Tryz.func126 [.r (.s (.b t370)), .br true, .r (.s (.i .i64 t371)), .br false, .r (.tu [.ag [.b bt377.1, .sl .u64 bt377.2.1], .s (.i .i64 bt377.2.2)])] (fun e => ai (nat_Bit.c A1) (ai c2 (ai (nat_Trail.c A3) (ai (q0 c4) (ai (num_way_made.c A6) e))))) (by kernel_rfl)
   ·obtain ⟨bt382, A7, h⟩ := bnd h
    have h := si h; subst h
    exact jth Tryz.func126 [.r (.s (.b t370)), .br false, .r (.tu [.ag [.b bt382.1, .sl .u64 bt382.2.1], .s (.i .i64 bt382.2.2)])] (fun e => ai (nat_Bit.c A1) (ai (z0 c2) (ai (num_way_made.c A7) e))) (by kernel_rfl)
theorem num_way_shr.c {k : Nat} {a0 : Int} {a1_0 : Bool} {l1_1 : List Int} {a2 : Int} {r : Bool × List Int × Int} (h : num_way_shr.f k a0 a1_0 l1_1 a2 = some r) : Con Tryz.prog Gw 126 [.s (.i .i64 a0), .ag [.b a1_0, .sl .u64 l1_1], .s (.i .i64 a2)] (· = .tu [.ag [.b r.1, .sl .u64 r.2.1], .s (.i .i64 r.2.2)]) := by
 unfold num_way_shr.f at h
 rcases ite_e h with ⟨c1, h⟩ | ⟨c1, h⟩
 ·have h := si h; subst h
  exact pth Tryz.func126 [.br true] (fun e => ai (d1 c1) e) (by kernel_rfl)
 ·obtain ⟨t364, A2, h⟩ := bnd h
  rcases ite_e h with ⟨c3, h⟩ | ⟨c3, h⟩
  ·obtain ⟨bt365, A4, h⟩ := bnd h
   rcases ite_e h with ⟨c5, h⟩ | ⟨c5, h⟩
   ·rcases ite_e h with ⟨c6, h⟩ | ⟨c6, h⟩
    ·obtain ⟨t369, A7, h⟩ := bnd h
     exact pth Tryz.func126 [.br false, .r (.s (.b t364)), .br false, .r (.tu [.s (.sl .u64 bt365.1), .s (.i .i64 bt365.2)]), .br false, .br true, .br true, .br true, .r (.s (.i .i64 t369)), .br true, .br true, .br true, .cut 0 [0, 2, 4, 6, 8, 10] [0, 1] []] (fun _ => ai (d0 c1) (ai (num_Form.c A2) (ai (nt1 c3) (ai (nat_Shr.c A4) (ai (n0 c5) (ai (d1 c6) (ai (d1 c6) (ai (d1 c6) (ai (nat_Trail.c A7) (ai (d1 c6) (ai (d1 c6) (ai (d1 c6) (num_way_shr.jc k _ _ _ _ _ _ _ h))))))))))))) (by kernel_rfl)
    ·exact pth Tryz.func126 [.br false, .r (.s (.b t364)), .br false, .r (.tu [.s (.sl .u64 bt365.1), .s (.i .i64 bt365.2)]), .br false, .br false, .br false, .br false, .br false, .br false, .br false, .cut 0 [0, 2, 4, 6, 8, 10] [0, 1] []] (fun _ => ai (d0 c1) (ai (num_Form.c A2) (ai (nt1 c3) (ai (nat_Shr.c A4) (ai (n0 c5) (ai (d0 c6) (ai (d0 c6) (ai (d0 c6) (ai (d0 c6) (ai (d0 c6) (ai (d0 c6) (num_way_shr.jc k _ _ _ _ _ _ _ h)))))))))))) (by kernel_rfl)
   ·have h := si h; subst h
    exact pth Tryz.func126 [.br false, .r (.s (.b t364)), .br false, .r (.tu [.s (.sl .u64 bt365.1), .s (.i .i64 bt365.2)]), .br true] (fun e => ai (d0 c1) (ai (num_Form.c A2) (ai (nt1 c3) (ai (nat_Shr.c A4) (ai (n1 c5) e))))) (by kernel_rfl)
  ·have h := si h; subst h
   exact pth Tryz.func126 [.br false, .r (.s (.b t364)), .br true] (fun e => ai (d0 c1) (ai (num_Form.c A2) (ai (nt0 (z0 c3)) e))) (by kernel_rfl)
def num_NearShr.f (k : Nat) (a0_0 : Bool) (l0_1 : List Int) (a1 : Int) : Option (Bool × List Int × Int) := (num_way_shr.f k 2 a0_0 l0_1 a1).bind fun bt389 => (some (bt389.1, bt389.2.1, bt389.2.2))
theorem num_NearShr.mono : ∀ a0 a1 a2 k, LeO (num_NearShr.f k a0 a1 a2) (num_NearShr.f (k + 1) a0 a1 a2) := by
 intro a0 a1 a2 k
 unfold num_NearShr.f
 repeat' first
   | (with_reducible exact num_way_shr.mono _ _ _ _ _)
   | (with_reducible exact LeO.refl _)
   | (with_reducible exact LeO.none _)
   | (with_reducible refine LeO.ite ?_ ?_)
   | (with_reducible refine LeO.bind ?_ (fun _ => ?_))
   | exact num_way_shr.mono _ _ _ _ _
   | exact LeO.none _
   | refine LeO.ite ?_ ?_
   | refine LeO.bind ?_ (fun _ => ?_)
theorem num_NearShr.c {k : Nat} {a0_0 : Bool} {l0_1 : List Int} {a1 : Int} {r : Bool × List Int × Int} (h : num_NearShr.f k a0_0 l0_1 a1 = some r) : Con Tryz.prog Gw 83 [.ag [.b a0_0, .sl .u64 l0_1], .s (.i .i64 a1)] (· = .tu [.ag [.b r.1, .sl .u64 r.2.1], .s (.i .i64 r.2.2)]) := by
 unfold num_NearShr.f at h
 obtain ⟨bt389, A1, h⟩ := bnd h
 have h := si h; subst h
 exact pth Tryz.func83 [.r (.tu [.ag [.b bt389.1, .sl .u64 bt389.2.1], .s (.i .i64 bt389.2.2)])] (fun e => ai (num_way_shr.c A1) e) (by kernel_rfl)
def round_widths_size.j0 : Nat → Int → Int → Int → Int → Bool → List Int → Option (Int)
 | 0, _, _, _, _, _, _ => none
 | k + 1, x8, x395000, x395001, x395002, x398000, x398001 => if (x398001.length : Int) > 0 then (if 0 < (x398001.length : Int) then (if 0 ≤ (wrap64 (x395000 - 1)) then ((round_widths_infinity.f x395000 x395001 x395002).bind fun t409 => (some (mn (IntKind.u64.wrap ((shl .u64 (IntKind.u64.wrap (wrap64 (x8 - x395001))) (wrap64 (x395000 - 1))) + (rd x398001 0))) t409))) else (none)) else (none)) else (if 0 ≤ (wrap64 (x395000 - 1)) then ((round_widths_infinity.f x395000 x395001 x395002).bind fun t410 => (some (mn (IntKind.u64.wrap ((shl .u64 (IntKind.u64.wrap (wrap64 (x8 - x395001))) (wrap64 (x395000 - 1))) + 0)) t410))) else (none))
def round_widths_size.f (k : Nat) (a0_0 : Int) (a0_1 : Int) (a0_2 : Int) (l1 : List Int) (a2 : Int) : Option (Int) := (nat_Bits.f l1).bind fun t395 => (if (wrap64 ((wrap64 (a2 + t395)) - 1)) > 1100 then ((round_widths_infinity.f a0_0 a0_1 a0_2).bind fun t396 => (some t396)) else (if (mx (wrap64 ((wrap64 ((wrap64 ((wrap64 (a2 + t395)) - 1)) - a0_0)) + 1)) a0_1) ≥ a2 then ((num_NearShr.f k false l1 (wrap64 ((mx (wrap64 ((wrap64 ((wrap64 ((wrap64 (a2 + t395)) - 1)) - a0_0)) + 1)) a0_1) - a2))).bind fun bt398 => (round_widths_size.j0 k (mx (wrap64 ((wrap64 ((wrap64 ((wrap64 (a2 + t395)) - 1)) - a0_0)) + 1)) a0_1) a0_0 a0_1 a0_2 bt398.1 bt398.2.1)) else ((num_Shl.f false l1 (wrap64 (a2 - (mx (wrap64 ((wrap64 ((wrap64 ((wrap64 (a2 + t395)) - 1)) - a0_0)) + 1)) a0_1)))).bind fun bt403 => (round_widths_size.j0 k (mx (wrap64 ((wrap64 ((wrap64 ((wrap64 (a2 + t395)) - 1)) - a0_0)) + 1)) a0_1) a0_0 a0_1 a0_2 bt403.1 bt403.2.1))))
theorem round_widths_size.mono_l : ∀ k, (∀ y0 y1 y2 y3 y4 y5, LeO (round_widths_size.j0 k y0 y1 y2 y3 y4 y5) (round_widths_size.j0 (k + 1) y0 y1 y2 y3 y4 y5))
 | 0 => fun _ _ _ _ _ _ r h => by simp [round_widths_size.j0] at h
 | k + 1 => by
  have ih0 := round_widths_size.mono_l k
  ·intro y0 y1 y2 y3 y4 y5
   unfold round_widths_size.j0
   repeat' first
   | (with_reducible exact ih0 _ _ _ _ _ _)
   | (with_reducible exact num_NearShr.mono _ _ _ _)
   | (with_reducible exact LeO.refl _)
   | (with_reducible exact LeO.none _)
   | (with_reducible refine LeO.ite ?_ ?_)
   | (with_reducible refine LeO.bind ?_ (fun _ => ?_))
   | exact ih0 _ _ _ _ _ _
   | exact num_NearShr.mono _ _ _ _
   | exact LeO.none _
   | refine LeO.ite ?_ ?_
   | refine LeO.bind ?_ (fun _ => ?_)
theorem round_widths_size.mono : ∀ a0 a1 a2 a3 a4 k, LeO (round_widths_size.f k a0 a1 a2 a3 a4) (round_widths_size.f (k + 1) a0 a1 a2 a3 a4) := by
 intro a0 a1 a2 a3 a4 k
 have ih0 := round_widths_size.mono_l k
 unfold round_widths_size.f
 repeat' first
   | (with_reducible exact ih0 _ _ _ _ _ _)
   | (with_reducible exact num_NearShr.mono _ _ _ _)
   | (with_reducible exact LeO.refl _)
   | (with_reducible exact LeO.none _)
   | (with_reducible refine LeO.ite ?_ ?_)
   | (with_reducible refine LeO.bind ?_ (fun _ => ?_))
   | exact ih0 _ _ _ _ _ _
   | exact num_NearShr.mono _ _ _ _
   | exact LeO.none _
   | refine LeO.ite ?_ ?_
   | refine LeO.bind ?_ (fun _ => ?_)
theorem round_widths_size.jc : ∀ k : Nat, (∀ (x8 : Int) (x395000 : Int) (x395001 : Int) (x395002 : Int) (x398000 : Bool) (x398001 : List Int) (r : Int), round_widths_size.j0 k x8 x395000 x395001 x395002 x398000 x398001 = some r → Fin Tryz.prog Gw 40 (nav (bodyOf Tryz.f40) [1, 1, 1, 1, 1, 1, 0] []) ⟨mkT 71 [(3, .s (.lo 0 0)), (8, .s (.i .i64 x8)), (9, .s (.lo 1 0))], [some (64, [.i .i64 x395000, .i .i64 x395001, .i .i64 x395002]), some (24, [.b x398000, .sl .u64 x398001])]⟩ (· = .s (.i .u64 r)))
 | 0 => (fun _ _ _ _ _ _ _ h => nn h)
 | k + 1 => by
  have ih := round_widths_size.jc k
  ·intro x8 x395000 x395001 x395002 x398000 x398001 r h
   rw [round_widths_size.j0] at h
   rcases ite_e h with ⟨c1, h⟩ | ⟨c1, h⟩
   ·rcases ite_e h with ⟨c2, h⟩ | ⟨c2, h⟩
    ·rcases ite_e h with ⟨c3, h⟩ | ⟨c3, h⟩
     ·obtain ⟨t409, A4, h⟩ := bnd h
      have h := si h; subst h
      exact jth Tryz.func40 [.br true, .r (.s (.i .u64 t409))] (fun e => ai (d1 c1) (ai (by decide : (0 : Int) ≤ 0) (ai c2 (ai c3 (ai (round_widths_infinity.c A4) e))))) (by kernel_rfl)
     ·cases h
    ·cases h
   ·rcases ite_e h with ⟨c5, h⟩ | ⟨c5, h⟩
    ·obtain ⟨t410, A6, h⟩ := bnd h
     have h := si h; subst h
     exact jth Tryz.func40 [.br false, .r (.s (.i .u64 t410))] (fun e => ai (d0 c1) (ai c5 (ai (round_widths_infinity.c A6) e))) (by kernel_rfl)
    ·cases h
theorem round_widths_size.c {k : Nat} {a0_0 : Int} {a0_1 : Int} {a0_2 : Int} {l1 : List Int} {a2 : Int} {r : Int} (h : round_widths_size.f k a0_0 a0_1 a0_2 l1 a2 = some r) : Con Tryz.prog Gw 40 [.ag [.i .i64 a0_0, .i .i64 a0_1, .i .i64 a0_2], .s (.sl .u64 l1), .s (.i .i64 a2)] (· = .s (.i .u64 r)) := by
 unfold round_widths_size.f at h
 obtain ⟨t395, A1, h⟩ := bnd h
 rcases ite_e h with ⟨c2, h⟩ | ⟨c2, h⟩
 ·obtain ⟨t396, A3, h⟩ := bnd h
  have h := si h; subst h
  exact pth Tryz.func40 [.r (.s (.i .i64 t395)), .br true, .r (.s (.i .u64 t396))] (fun e => ai (nat_Bits.c A1) (ai (d1 c2) (ai (round_widths_infinity.c A3) e))) (by kernel_rfl)
 ·rcases ite_e h with ⟨c4, h⟩ | ⟨c4, h⟩
  ·obtain ⟨bt398, A5, h⟩ := bnd h
   exact pth Tryz.func40 [.r (.s (.i .i64 t395)), .br false, .br true, .r (.tu [.ag [.b bt398.1, .sl .u64 bt398.2.1], .s (.i .i64 bt398.2.2)]), .cut 0 [3, 8, 9] [0, 1] []] (fun _ => ai (nat_Bits.c A1) (ai (d0 c2) (ai (d1 c4) (ai (num_NearShr.c A5) (round_widths_size.jc k _ _ _ _ _ _ _ h))))) (by kernel_rfl)
  ·obtain ⟨bt403, A6, h⟩ := bnd h
   exact pth Tryz.func40 [.r (.s (.i .i64 t395)), .br false, .br false, .r (.tu [.ag [.b bt403.1, .sl .u64 bt403.2.1], .s (.i .i64 bt403.2.2)]), .cut 0 [3, 8, 9] [0, 1] []] (fun _ => ai (nat_Bits.c A1) (ai (d0 c2) (ai (d0 c4) (ai (num_Shl.c A6) (round_widths_size.jc k _ _ _ _ _ _ _ h))))) (by kernel_rfl)
def round_Nearest.f (k : Nat) (a0 : Int) (a1_0 : Bool) (l1_1 : List Int) (a1_2 : Int) : Option (Int × Int) := (round_of.f a0).bind fun bt412 => (if (bt412.1 == 0 && (bt412.2.1 == 0 && (bt412.2.2 == 0))) = true then (some (0, 1)) else ((dyadic_Form.f k a1_0 l1_1 a1_2).bind fun t416 => (if t416 = true then (if (l1_1.length : Int) = 0 then (some (0, 0)) else ((round_widths_size.f k bt412.1 bt412.2.1 bt412.2.2 l1_1 a1_2).bind fun t417 => ((round_widths_signed.f bt412.1 bt412.2.1 bt412.2.2 a1_0 t417).bind fun t418 => (some (t418, 0))))) else (some (0, 2)))))
theorem round_Nearest.mono : ∀ a0 a1 a2 a3 k, LeO (round_Nearest.f k a0 a1 a2 a3) (round_Nearest.f (k + 1) a0 a1 a2 a3) := by
 intro a0 a1 a2 a3 k
 unfold round_Nearest.f
 repeat' first
   | (with_reducible exact dyadic_Form.mono _ _ _ _)
   | (with_reducible exact round_widths_size.mono _ _ _ _ _ _)
   | (with_reducible exact LeO.refl _)
   | (with_reducible exact LeO.none _)
   | (with_reducible refine LeO.ite ?_ ?_)
   | (with_reducible refine LeO.bind ?_ (fun _ => ?_))
   | exact dyadic_Form.mono _ _ _ _
   | exact round_widths_size.mono _ _ _ _ _ _
   | exact LeO.none _
   | refine LeO.ite ?_ ?_
   | refine LeO.bind ?_ (fun _ => ?_)
theorem round_Nearest.c {k : Nat} {a0 : Int} {a1_0 : Bool} {l1_1 : List Int} {a1_2 : Int} {r : Int × Int} (h : round_Nearest.f k a0 a1_0 l1_1 a1_2 = some r) : Con Tryz.prog Gw 17 [.s (.i .i64 a0), .ag [.b a1_0, .sl .u64 l1_1, .i .i64 a1_2]] (· = .tu [.s (.i .u64 r.1), .s (.i .i64 r.2)]) := by
 unfold round_Nearest.f at h
 obtain ⟨bt412, A1, h⟩ := bnd h
 rcases ite_e h with ⟨c2, h⟩ | ⟨c2, h⟩
 ·have h := si h; subst h
  exact pth Tryz.func17 [.r (.ag [.i .i64 bt412.1, .i .i64 bt412.2.1, .i .i64 bt412.2.2]), .br true] (fun e => ai (round_of.c A1) (ai c2 e)) (by kernel_rfl)
 ·obtain ⟨t416, A3, h⟩ := bnd h
  rcases ite_e h with ⟨c4, h⟩ | ⟨c4, h⟩
  ·rcases ite_e h with ⟨c5, h⟩ | ⟨c5, h⟩
   ·have h := si h; subst h
    exact pth Tryz.func17 [.r (.ag [.i .i64 bt412.1, .i .i64 bt412.2.1, .i .i64 bt412.2.2]), .br false, .r (.s (.b t416)), .br false, .br true] (fun e => ai (round_of.c A1) (ai (z0 c2) (ai (dyadic_Form.c A3) (ai (nt1 c4) (ai (q1 c5) e))))) (by kernel_rfl)
   ·obtain ⟨t417, A6, h⟩ := bnd h
    obtain ⟨t418, A7, h⟩ := bnd h
    have h := si h; subst h
    exact pth Tryz.func17 [.r (.ag [.i .i64 bt412.1, .i .i64 bt412.2.1, .i .i64 bt412.2.2]), .br false, .r (.s (.b t416)), .br false, .br false, .r (.s (.i .u64 t417)), .r (.s (.i .u64 t418))] (fun e => ai (round_of.c A1) (ai (z0 c2) (ai (dyadic_Form.c A3) (ai (nt1 c4) (ai (q0 c5) (ai (round_widths_size.c A6) (ai (round_widths_signed.c A7) e))))))) (by kernel_rfl)
  ·have h := si h; subst h
   exact pth Tryz.func17 [.r (.ag [.i .i64 bt412.1, .i .i64 bt412.2.1, .i .i64 bt412.2.2]), .br false, .r (.s (.b t416)), .br true] (fun e => ai (round_of.c A1) (ai (z0 c2) (ai (dyadic_Form.c A3) (ai (nt0 (z0 c4)) e)))) (by kernel_rfl)
def gnomonref07_Of.f (a0 : Int) : Option (Int × Int × Int × Int × Int × Int × Bool) := if a0 = 32 then (some (2147483648, 24, (-149), 104, 2139095040, 2143289345, true)) else (if a0 = 64 then (some (9223372036854775808, 53, (-1074), 971, 9218868437227405312, 9221120237041090561, true)) else (some (0, 0, 0, 0, 0, 0, false)))
theorem gnomonref07_Of.c {a0 : Int} {r : Int × Int × Int × Int × Int × Int × Bool} (h : gnomonref07_Of.f a0 = some r) : Con Tryz.prog Gw 101 [.s (.i .i64 a0)] (· = .tu [.ag [.i .u64 r.1, .i .i64 r.2.1, .i .i64 r.2.2.1, .i .i64 r.2.2.2.1, .i .u64 r.2.2.2.2.1, .i .u64 r.2.2.2.2.2.1], .s (.b r.2.2.2.2.2.2)]) := by
 unfold gnomonref07_Of.f at h
 rcases ite_e h with ⟨c1, h⟩ | ⟨c1, h⟩
 ·have h := si h; subst h
  exact pth Tryz.func101 [.br true] (fun e => ai (q1 c1) e) (by kernel_rfl)
 ·rcases ite_e h with ⟨c2, h⟩ | ⟨c2, h⟩
  ·have h := si h; subst h
   exact pth Tryz.func101 [.br false, .br true] (fun e => ai (q0 c1) (ai (q1 c2) e)) (by kernel_rfl)
  ·have h := si h; subst h
   exact pth Tryz.func101 [.br false, .br false] (fun e => ai (q0 c1) (ai (q0 c2) e)) (by kernel_rfl)
def gnomonref07_Check.f (a0 : Int) (a1 : Int) : Option (Int) := (gnomonref07_Of.f a0).bind fun bt420 => (if bt420.2.2.2.2.2.2 = true then (if (IntKind.u64.wrap (Int.tdiv a1 2)) ≥ bt420.1 then (some 2) else (some 0)) else (some 1))
def binary_shape_sign.f (a0_0 : Int) (a0_1 : Int) (a0_2 : Int) (a0_3 : Int) : Option (Int) := if 0 ≤ (wrap64 (a0_0 - 1)) then (some (shl .u64 1 (wrap64 (a0_0 - 1)))) else (none)
theorem binary_shape_sign.c {a0_0 : Int} {a0_1 : Int} {a0_2 : Int} {a0_3 : Int} {r : Int} (h : binary_shape_sign.f a0_0 a0_1 a0_2 a0_3 = some r) : Con Tryz.prog Gw 142 [.ag [.i .i64 a0_0, .i .i64 a0_1, .i .i64 a0_2, .i .u64 a0_3]] (· = .s (.i .u64 r)) := by
 unfold binary_shape_sign.f at h
 rcases ite_e h with ⟨c1, h⟩ | ⟨c1, h⟩
 ·have h := si h; subst h
  exact pth Tryz.func142 [] (fun e => ai c1 e) (by kernel_rfl)
 ·cases h
def binary_shape_hidden.f (a0_0 : Int) (a0_1 : Int) (a0_2 : Int) (a0_3 : Int) : Option (Int) := if 0 ≤ (wrap64 (a0_1 - 1)) then (some (shl .u64 1 (wrap64 (a0_1 - 1)))) else (none)
theorem binary_shape_hidden.c {a0_0 : Int} {a0_1 : Int} {a0_2 : Int} {a0_3 : Int} {r : Int} (h : binary_shape_hidden.f a0_0 a0_1 a0_2 a0_3 = some r) : Con Tryz.prog Gw 143 [.ag [.i .i64 a0_0, .i .i64 a0_1, .i .i64 a0_2, .i .u64 a0_3]] (· = .s (.i .u64 r)) := by
 unfold binary_shape_hidden.f at h
 rcases ite_e h with ⟨c1, h⟩ | ⟨c1, h⟩
 ·have h := si h; subst h
  exact pth Tryz.func143 [] (fun e => ai c1 e) (by kernel_rfl)
 ·cases h
def binary_shape_inf.f (a0_0 : Int) (a0_1 : Int) (a0_2 : Int) (a0_3 : Int) : Option (Int) := (binary_shape_sign.f a0_0 a0_1 a0_2 a0_3).bind fun t447 => ((binary_shape_hidden.f a0_0 a0_1 a0_2 a0_3).bind fun t448 => (some (IntKind.u64.wrap (t447 - t448))))
theorem binary_shape_inf.c {a0_0 : Int} {a0_1 : Int} {a0_2 : Int} {a0_3 : Int} {r : Int} (h : binary_shape_inf.f a0_0 a0_1 a0_2 a0_3 = some r) : Con Tryz.prog Gw 140 [.ag [.i .i64 a0_0, .i .i64 a0_1, .i .i64 a0_2, .i .u64 a0_3]] (· = .s (.i .u64 r)) := by
 unfold binary_shape_inf.f at h
 obtain ⟨t447, A1, h⟩ := bnd h
 obtain ⟨t448, A2, h⟩ := bnd h
 have h := si h; subst h
 exact pth Tryz.func140 [.r (.s (.i .u64 t447)), .r (.s (.i .u64 t448))] (fun e => ai (binary_shape_sign.c A1) (ai (binary_shape_hidden.c A2) e)) (by kernel_rfl)
def binary_shapeOf.f (a0 : Int) : Option (Int × Int × Int × Int) := if a0 = 32 then (some (32, 24, (-149), 2143289345)) else (if a0 = 64 then (some (64, 53, (-1074), 9221120237041090561)) else (some (0, 0, 0, 0)))
theorem binary_shapeOf.c {a0 : Int} {r : Int × Int × Int × Int} (h : binary_shapeOf.f a0 = some r) : Con Tryz.prog Gw 121 [.s (.i .i64 a0)] (· = .ag [.i .i64 r.1, .i .i64 r.2.1, .i .i64 r.2.2.1, .i .u64 r.2.2.2]) := by
 unfold binary_shapeOf.f at h
 rcases ite_e h with ⟨c1, h⟩ | ⟨c1, h⟩
 ·have h := si h; subst h
  exact pth Tryz.func121 [.br true] (fun e => ai (q1 c1) e) (by kernel_rfl)
 ·rcases ite_e h with ⟨c2, h⟩ | ⟨c2, h⟩
  ·have h := si h; subst h
   exact pth Tryz.func121 [.br false, .br true] (fun e => ai (q0 c1) (ai (q1 c2) e)) (by kernel_rfl)
  ·have h := si h; subst h
   exact pth Tryz.func121 [.br false, .br false] (fun e => ai (q0 c1) (ai (q0 c2) e)) (by kernel_rfl)
def binary_take.j0 : Nat → Int → Bool → Int → Int → Int → Int → Option (Int × Int × Int × Int × Bool × Int × Int)
 | 0, _, _, _, _, _, _ => none
 | k + 1, x1, x24, x456000, x456001, x456002, x456003 => if x24 = true then (some (x456000, x456001, x456002, x456003, false, 0, 2)) else ((binary_shape_sign.f x456000 x456001 x456002 x456003).bind fun t456 => ((binary_shape_sign.f x456000 x456001 x456002 x456003).bind fun t457 => (some (x456000, x456001, x456002, x456003, ((Go.bits .and .u64 x1 t456) != 0), Go.bits .andNot .u64 x1 t457, 0))))
def binary_take.f (k : Nat) (a0 : Int) (a1 : Int) : Option (Int × Int × Int × Int × Bool × Int × Int) := (binary_shapeOf.f a0).bind fun bt451 => (if (bt451.1 == 0 && (bt451.2.1 == 0 && (bt451.2.2.1 == 0 && (bt451.2.2.2 == 0)))) = true then (some (bt451.1, bt451.2.1, bt451.2.2.1, bt451.2.2.2, false, 0, 1)) else (if bt451.1 < 64 then (if 0 ≤ bt451.1 then (binary_take.j0 k a1 ((shr .u64 a1 bt451.1) != 0) bt451.1 bt451.2.1 bt451.2.2.1 bt451.2.2.2) else (none)) else (binary_take.j0 k a1 false bt451.1 bt451.2.1 bt451.2.2.1 bt451.2.2.2)))
theorem binary_take.mono_l : ∀ k, (∀ y0 y1 y2 y3 y4 y5, LeO (binary_take.j0 k y0 y1 y2 y3 y4 y5) (binary_take.j0 (k + 1) y0 y1 y2 y3 y4 y5))
 | 0 => fun _ _ _ _ _ _ r h => by simp [binary_take.j0] at h
 | k + 1 => by
  have ih0 := binary_take.mono_l k
  ·intro y0 y1 y2 y3 y4 y5
   unfold binary_take.j0
   repeat' first
   | (with_reducible exact ih0 _ _ _ _ _ _)
   | (with_reducible exact LeO.refl _)
   | (with_reducible exact LeO.none _)
   | (with_reducible refine LeO.ite ?_ ?_)
   | (with_reducible refine LeO.bind ?_ (fun _ => ?_))
   | exact ih0 _ _ _ _ _ _
   | exact LeO.none _
   | refine LeO.ite ?_ ?_
   | refine LeO.bind ?_ (fun _ => ?_)
theorem binary_take.mono : ∀ a0 a1 k, LeO (binary_take.f k a0 a1) (binary_take.f (k + 1) a0 a1) := by
 intro a0 a1 k
 have ih0 := binary_take.mono_l k
 unfold binary_take.f
 repeat' first
   | (with_reducible exact ih0 _ _ _ _ _ _)
   | (with_reducible exact LeO.refl _)
   | (with_reducible exact LeO.none _)
   | (with_reducible refine LeO.ite ?_ ?_)
   | (with_reducible refine LeO.bind ?_ (fun _ => ?_))
   | exact ih0 _ _ _ _ _ _
   | exact LeO.none _
   | refine LeO.ite ?_ ?_
   | refine LeO.bind ?_ (fun _ => ?_)
theorem binary_take.jc : ∀ k : Nat, (∀ (x1 : Int) (x24 : Bool) (x456000 : Int) (x456001 : Int) (x456002 : Int) (x456003 : Int) (r : Int × Int × Int × Int × Bool × Int × Int), binary_take.j0 k x1 x24 x456000 x456001 x456002 x456003 = some r → Fin Tryz.prog Gw 104 (nav (bodyOf Tryz.f104) [1, 1, 1, 0, 1] []) ⟨mkT 36 [(1, .s (.i .u64 x1)), (4, .s (.lo 0 0)), (8, .s (.lo 1 0)), (24, .s (.b x24))], [some (131, [.i .i64 0, .i .i64 0, .i .i64 0, .i .u64 0]), some (131, [.i .i64 x456000, .i .i64 x456001, .i .i64 x456002, .i .u64 x456003])]⟩ (· = .tu [.ag [.i .i64 r.1, .i .i64 r.2.1, .i .i64 r.2.2.1, .i .u64 r.2.2.2.1], .s (.b r.2.2.2.2.1), .s (.i .u64 r.2.2.2.2.2.1), .s (.i .i64 r.2.2.2.2.2.2)]))
 | 0 => (fun _ _ _ _ _ _ _ h => nn h)
 | k + 1 => by
  have ih := binary_take.jc k
  ·intro x1 x24 x456000 x456001 x456002 x456003 r h
   rw [binary_take.j0] at h
   rcases ite_e h with ⟨c1, h⟩ | ⟨c1, h⟩
   ·have h := si h; subst h
    exact jth Tryz.func104 [.br true] (fun e => ai c1 e) (by kernel_rfl)
   ·obtain ⟨t456, A2, h⟩ := bnd h
    obtain ⟨t457, A3, h⟩ := bnd h
    have h := si h; subst h
    exact jth Tryz.func104 [.br false, .r (.s (.i .u64 t456)), .r (.s (.i .u64 t457))] (fun e => ai (z0 c1) (ai (binary_shape_sign.c A2) (ai (binary_shape_sign.c A3) e))) (by kernel_rfl)
theorem binary_take.c {k : Nat} {a0 : Int} {a1 : Int} {r : Int × Int × Int × Int × Bool × Int × Int} (h : binary_take.f k a0 a1 = some r) : Con Tryz.prog Gw 104 [.s (.i .i64 a0), .s (.i .u64 a1)] (· = .tu [.ag [.i .i64 r.1, .i .i64 r.2.1, .i .i64 r.2.2.1, .i .u64 r.2.2.2.1], .s (.b r.2.2.2.2.1), .s (.i .u64 r.2.2.2.2.2.1), .s (.i .i64 r.2.2.2.2.2.2)]) := by
 unfold binary_take.f at h
 obtain ⟨bt451, A1, h⟩ := bnd h
 rcases ite_e h with ⟨c2, h⟩ | ⟨c2, h⟩
 ·have h := si h; subst h
  exact pth Tryz.func104 [.r (.ag [.i .i64 bt451.1, .i .i64 bt451.2.1, .i .i64 bt451.2.2.1, .i .u64 bt451.2.2.2]), .br true] (fun e => ai (binary_shapeOf.c A1) (ai c2 e)) (by kernel_rfl)
 ·rcases ite_e h with ⟨c3, h⟩ | ⟨c3, h⟩
  ·rcases ite_e h with ⟨c4, h⟩ | ⟨c4, h⟩
   ·exact pth Tryz.func104 [.r (.ag [.i .i64 bt451.1, .i .i64 bt451.2.1, .i .i64 bt451.2.2.1, .i .u64 bt451.2.2.2]), .br false, .br true, .br true, .br true, .br true, .br true, .br true, .cut 0 [1, 4, 8, 24] [0, 1] []] (fun _ => ai (binary_shapeOf.c A1) (ai (z0 c2) (ai (d1 c3) (ai (d1 c3) (ai (d1 c3) (ai (d1 c3) (ai c4 (ai (d1 c3) (ai (d1 c3) (binary_take.jc k _ _ _ _ _ _ _ h)))))))))) (by kernel_rfl)
   ·cases h
  ·exact pth Tryz.func104 [.r (.ag [.i .i64 bt451.1, .i .i64 bt451.2.1, .i .i64 bt451.2.2.1, .i .u64 bt451.2.2.2]), .br false, .br false, .br false, .br false, .br false, .br false, .br false, .cut 0 [1, 4, 8, 24] [0, 1] []] (fun _ => ai (binary_shapeOf.c A1) (ai (z0 c2) (ai (d0 c3) (ai (d0 c3) (ai (d0 c3) (ai (d0 c3) (ai (d0 c3) (ai (d0 c3) (binary_take.jc k _ _ _ _ _ _ _ h))))))))) (by kernel_rfl)
def dyadic_Make.j0 : Nat → Int → Int → Bool → Bool → List Int → Option (Bool × List Int × Int × Int)
 | 0, _, _, _, _, _ => none
 | k + 1, x1, x6, x38, x473000, x473001 => if x38 = true then (some (false, ([] : List Int), 0, 5)) else ((nat_Shr.f x473001 x6).bind fun bt476 => (some (x473000, bt476.1, wrap64 (x1 + x6), 0)))
def dyadic_Make.f (k : Nat) (a0_0 : Bool) (l0_1 : List Int) (a1 : Int) : Option (Bool × List Int × Int × Int) := (num_Form.f a0_0 l0_1).bind fun t474 => (if t474 = true then (if (l0_1.length : Int) = 0 then (some (false, ([] : List Int), 0, 0)) else ((nat_Trail.f l0_1).bind fun t475 => (if a1 > 1048576 then (dyadic_Make.j0 k a1 t475 true a0_0 l0_1) else (if a1 < (-1572864) then (dyadic_Make.j0 k a1 t475 true a0_0 l0_1) else (if (wrap64 (a1 + t475)) < (-1048576) then (dyadic_Make.j0 k a1 t475 true a0_0 l0_1) else (dyadic_Make.j0 k a1 t475 (decide ((wrap64 (a1 + t475)) > 1048576)) a0_0 l0_1)))))) else (some (false, ([] : List Int), 0, 2)))
theorem dyadic_Make.mono_l : ∀ k, (∀ y0 y1 y2 y3 y4, LeO (dyadic_Make.j0 k y0 y1 y2 y3 y4) (dyadic_Make.j0 (k + 1) y0 y1 y2 y3 y4))
 | 0 => fun _ _ _ _ _ r h => by simp [dyadic_Make.j0] at h
 | k + 1 => by
  have ih0 := dyadic_Make.mono_l k
  ·intro y0 y1 y2 y3 y4
   unfold dyadic_Make.j0
   repeat' first
   | (with_reducible exact ih0 _ _ _ _ _)
   | (with_reducible exact LeO.refl _)
   | (with_reducible exact LeO.none _)
   | (with_reducible refine LeO.ite ?_ ?_)
   | (with_reducible refine LeO.bind ?_ (fun _ => ?_))
   | exact ih0 _ _ _ _ _
   | exact LeO.none _
   | refine LeO.ite ?_ ?_
   | refine LeO.bind ?_ (fun _ => ?_)
theorem dyadic_Make.mono : ∀ a0 a1 a2 k, LeO (dyadic_Make.f k a0 a1 a2) (dyadic_Make.f (k + 1) a0 a1 a2) := by
 intro a0 a1 a2 k
 have ih0 := dyadic_Make.mono_l k
 unfold dyadic_Make.f
 repeat' first
   | (with_reducible exact ih0 _ _ _ _ _)
   | (with_reducible exact LeO.refl _)
   | (with_reducible exact LeO.none _)
   | (with_reducible refine LeO.ite ?_ ?_)
   | (with_reducible refine LeO.bind ?_ (fun _ => ?_))
   | exact ih0 _ _ _ _ _
   | exact LeO.none _
   | refine LeO.ite ?_ ?_
   | refine LeO.bind ?_ (fun _ => ?_)
theorem dyadic_Make.jc : ∀ k : Nat, (∀ (x1 : Int) (x6 : Int) (x38 : Bool) (x473000 : Bool) (x473001 : List Int) (r : Bool × List Int × Int × Int), dyadic_Make.j0 k x1 x6 x38 x473000 x473001 = some r → Fin Tryz.prog Gw 46 (nav (bodyOf Tryz.f46) [1, 1, 1, 1, 0, 1] []) ⟨mkT 55 [(1, .s (.i .i64 x1)), (2, .s (.lo 0 0)), (4, .s (.lo 1 0)), (6, .s (.i .i64 x6)), (38, .s (.b x38))], [some (24, [.b x473000, .sl .u64 x473001]), some (26, [.b false, .sl .u64 ([]), .i .i64 0])]⟩ (· = .tu [.ag [.b r.1, .sl .u64 r.2.1, .i .i64 r.2.2.1], .s (.i .i64 r.2.2.2)]))
 | 0 => (fun _ _ _ _ _ _ h => nn h)
 | k + 1 => by
  have ih := dyadic_Make.jc k
  ·intro x1 x6 x38 x473000 x473001 r h
   rw [dyadic_Make.j0] at h
   rcases ite_e h with ⟨c1, h⟩ | ⟨c1, h⟩
   ·have h := si h; subst h
    exact jth Tryz.func46 [.br true] (fun e => ai c1 e) (by kernel_rfl)
   ·obtain ⟨bt476, A2, h⟩ := bnd h
    have h := si h; subst h
    exact jth Tryz.func46 [.br false, .r (.tu [.s (.sl .u64 bt476.1), .s (.i .i64 bt476.2)])] (fun e => ai (z0 c1) (ai (nat_Shr.c A2) e)) (by kernel_rfl)
theorem dyadic_Make.c {k : Nat} {a0_0 : Bool} {l0_1 : List Int} {a1 : Int} {r : Bool × List Int × Int × Int} (h : dyadic_Make.f k a0_0 l0_1 a1 = some r) : Con Tryz.prog Gw 46 [.ag [.b a0_0, .sl .u64 l0_1], .s (.i .i64 a1)] (· = .tu [.ag [.b r.1, .sl .u64 r.2.1, .i .i64 r.2.2.1], .s (.i .i64 r.2.2.2)]) := by
 unfold dyadic_Make.f at h
 obtain ⟨t474, A1, h⟩ := bnd h
 rcases ite_e h with ⟨c2, h⟩ | ⟨c2, h⟩
 ·rcases ite_e h with ⟨c3, h⟩ | ⟨c3, h⟩
  ·have h := si h; subst h
   exact pth Tryz.func46 [.r (.s (.b t474)), .br false, .br true] (fun e => ai (num_Form.c A1) (ai (nt1 c2) (ai (q1 c3) e))) (by kernel_rfl)
  ·obtain ⟨t475, A4, h⟩ := bnd h
   rcases ite_e h with ⟨c5, h⟩ | ⟨c5, h⟩
   ·exact pth Tryz.func46 [.r (.s (.b t474)), .br false, .br false, .r (.s (.i .i64 t475)), .br true, .br true, .br true, .br true, .br true, .br true, .br true, .br true, .br true, .br true, .br true, .br true, .br true, .cut 0 [1, 2, 4, 6, 38] [0, 1] []] (fun _ => ai (num_Form.c A1) (ai (nt1 c2) (ai (q0 c3) (ai (nat_Trail.c A4) (ai (d1 c5) (ai (d1 c5) (ai (d1 c5) (ai tt (ai tt (ai tt (ai tt (ai tt (ai tt (ai tt (ai tt (ai tt (ai tt (dyadic_Make.jc k _ _ _ _ _ _ h)))))))))))))))))) (by kernel_rfl)
   ·rcases ite_e h with ⟨c6, h⟩ | ⟨c6, h⟩
    ·exact pth Tryz.func46 [.r (.s (.b t474)), .br false, .br false, .r (.s (.i .i64 t475)), .br false, .br false, .br false, .br true, .br true, .br true, .br true, .br true, .br true, .br true, .br true, .br true, .br true, .cut 0 [1, 2, 4, 6, 38] [0, 1] []] (fun _ => ai (num_Form.c A1) (ai (nt1 c2) (ai (q0 c3) (ai (nat_Trail.c A4) (ai (d0 c5) (ai (d0 c5) (ai (d0 c5) (ai (d1 c6) (ai (d1 c6) (ai (d1 c6) (ai (d1 c6) (ai (d1 c6) (ai tt (ai tt (ai tt (ai tt (ai tt (dyadic_Make.jc k _ _ _ _ _ _ h)))))))))))))))))) (by kernel_rfl)
    ·rcases ite_e h with ⟨c7, h⟩ | ⟨c7, h⟩
     ·exact pth Tryz.func46 [.r (.s (.b t474)), .br false, .br false, .r (.s (.i .i64 t475)), .br false, .br false, .br false, .br false, .br false, .br false, .br false, .br false, .br true, .br true, .br true, .br true, .br true, .cut 0 [1, 2, 4, 6, 38] [0, 1] []] (fun _ => ai (num_Form.c A1) (ai (nt1 c2) (ai (q0 c3) (ai (nat_Trail.c A4) (ai (d0 c5) (ai (d0 c5) (ai (d0 c5) (ai (d0 c6) (ai (d0 c6) (ai (d0 c6) (ai (d0 c6) (ai (d0 c6) (ai (d1 c7) (ai (d1 c7) (ai (d1 c7) (ai (d1 c7) (ai (d1 c7) (dyadic_Make.jc k _ _ _ _ _ _ h)))))))))))))))))) (by kernel_rfl)
     ·exact pth Tryz.func46 [.r (.s (.b t474)), .br false, .br false, .r (.s (.i .i64 t475)), .br false, .br false, .br false, .br false, .br false, .br false, .br false, .br false, .br false, .br false, .br false, .br false, .br false, .cut 0 [1, 2, 4, 6, 38] [0, 1] []] (fun _ => ai (num_Form.c A1) (ai (nt1 c2) (ai (q0 c3) (ai (nat_Trail.c A4) (ai (d0 c5) (ai (d0 c5) (ai (d0 c5) (ai (d0 c6) (ai (d0 c6) (ai (d0 c6) (ai (d0 c6) (ai (d0 c6) (ai (d0 c7) (ai (d0 c7) (ai (d0 c7) (ai (d0 c7) (ai (d0 c7) (dyadic_Make.jc k _ _ _ _ _ _ h)))))))))))))))))) (by kernel_rfl)
 ·have h := si h; subst h
  exact pth Tryz.func46 [.r (.s (.b t474)), .br true] (fun e => ai (num_Form.c A1) (ai (nt0 (z0 c2)) e)) (by kernel_rfl)
end Go.Proofs.YtelfmddcjlocpaaGreatDoor.PLib
