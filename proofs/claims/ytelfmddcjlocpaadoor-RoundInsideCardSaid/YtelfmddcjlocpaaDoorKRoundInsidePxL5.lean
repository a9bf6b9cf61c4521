/- Functions of the program as plain Lean functions (definitions as the print's), and that the machine's calls do what they do (contracts 'X.c', by Px). Condition: math/bits' table is laid. -/
import Derived.Test.YtelfmddcjlocpaaDoorKRoundInsidePxBr
import Derived.Test.YtelfmddcjlocpaaDoorKRoundInsidePRefx0
import Derived.Test.YtelfmddcjlocpaaDoorKRoundInsidePxRef
import Derived.Test.YtelfmddcjlocpaaDoorKRoundInsidePxL0
import Derived.Test.YtelfmddcjlocpaaDoorKRoundInsidePxL1
import Derived.Test.YtelfmddcjlocpaaDoorKRoundInsidePxL2
import Derived.Test.YtelfmddcjlocpaaDoorKRoundInsidePxL3
import Derived.Test.YtelfmddcjlocpaaDoorKRoundInsidePxL4
set_option linter.unusedVariables false
namespace Go.Proofs.YtelfmddcjlocpaaDoor.PLib
open Go Go.RowKit Go.Proofs.YtelfmddcjlocpaaDoorW.PrintWords Go.Proofs.YtelfmddcjlocpaaDoorW.PrintMore Go.Proofs.YtelfmddcjlocpaaDoor.Given Go.Proofs.YtelfmddcjlocpaaDoor.Px Go.Proofs.YtelfmddcjlocpaaDoor.PRef
mutual
def gnomonlaw08_RoundInside.j0 : Nat → Int → Int → Int → Bool → Bool → List Int → Int → Option (Bool)
 | 0, _, _, _, _, _, _, _ => none
 | k + 1, x5, x6, x7, x39, x161000, x161001, x161002 => if x39 = true then (if x7 = 0 then (some (x6 == 0)) else (some false)) else ((gnomonlaw08_sign.f x5).bind fun t167 => (if (x161000 != ((Go.bits .and .u64 x6 t167) != 0)) = true then (some false) else ((gnomonlaw08_finite.f x5 x6).bind fun bt168 => (if bt168.1 = true then (gnomonlaw08_RoundInside.j1 k x5 x6 bt168.2 x161000 x161001 x161002) else (gnomonlaw08_RoundInside.j1 k x5 x6 true x161000 x161001 x161002)))))
def gnomonlaw08_RoundInside.j1 : Nat → Int → Int → Bool → Bool → List Int → Int → Option (Bool)
 | 0, _, _, _, _, _, _ => none
 | k + 1, x5, x6, x65, x161000, x161001, x161002 => if x65 = true then ((gnomonlaw08_beyond.f k x5 x161000 x161001 x161002 x6).bind fun t170 => (some t170)) else ((round_Cell.f k x5 x6).bind fun bt171 => (if bt171.2.2.2.2.2.2.2 = 0 then (gnomonlaw08_RoundInside.j2 k bt171.2.2.2.2.2.2.1 (bt171.2.2.2.2.2.2.1 != ((Int.tmod x6 2) == 0)) x161000 x161001 x161002 bt171.1 bt171.2.1 bt171.2.2.1 bt171.2.2.2.1 bt171.2.2.2.2.1 bt171.2.2.2.2.2.1) else (gnomonlaw08_RoundInside.j2 k bt171.2.2.2.2.2.2.1 true x161000 x161001 x161002 bt171.1 bt171.2.1 bt171.2.2.1 bt171.2.2.2.1 bt171.2.2.2.2.1 bt171.2.2.2.2.2.1)))
def gnomonlaw08_RoundInside.j2 : Nat → Bool → Bool → Bool → List Int → Int → Bool → List Int → Int → Bool → List Int → Int → Option (Bool)
 | 0, _, _, _, _, _, _, _, _, _, _, _ => none
 | k + 1, x11, x85, x161000, x161001, x161002, x184000, x184001, x184002, x184003, x184004, x184005 => if x85 = true then (some false) else ((gnomonlaw08_at.f k x184000 x184001 x184002 x161000 x161001 x161002).bind fun t184 => ((gnomonlaw08_at.f k x161000 x161001 x161002 x184003 x184004 x184005).bind fun t185 => (if t184 > 1 then (gnomonlaw08_RoundInside.j3 k x11 t184 t185 true) else (gnomonlaw08_RoundInside.j3 k x11 t184 t185 (decide (t185 > 1))))))
def gnomonlaw08_RoundInside.j3 : Nat → Bool → Int → Int → Bool → Option (Bool)
 | 0, _, _, _, _ => none
 | k + 1, x11, x13, x14, x99 => if x99 = true then (some false) else (if x13 < 0 then (if x14 < 0 then (some true) else (if x11 = true then (if x13 ≤ 0 then (some (decide (x14 ≤ 0))) else (some false)) else (some false))) else (if x11 = true then (if x13 ≤ 0 then (some (decide (x14 ≤ 0))) else (some false)) else (some false)))
end
def gnomonlaw08_RoundInside.f (k : Nat) (a0 : Bool) (a1_0 : Bool) (l1_1 : List Int) (a1_2 : Int) : Option (Bool) := (gnomonlaw08_format.f a0).bind fun t161 => ((gnomonlaw08_awake.f k).bind fun t162 => (if t162 = true then ((round_Nearest.f k t161 a1_0 l1_1 a1_2).bind fun bt163 => ((gnomonref05_DocForm.f k a1_0 l1_1 a1_2).bind fun t165 => (if t165 = true then (if bt163.2 = 0 then ((gnomonref05_Nought.f a1_0 l1_1 a1_2).bind fun t166 => (gnomonlaw08_RoundInside.j0 k t161 bt163.1 bt163.2 t166 a1_0 l1_1 a1_2)) else (gnomonlaw08_RoundInside.j0 k t161 bt163.1 bt163.2 true a1_0 l1_1 a1_2)) else (if bt163.2 = 2 then (some (bt163.1 == 0)) else (some false))))) else (some false)))
theorem gnomonlaw08_RoundInside.jc : ∀ k : Nat, (∀ (x5 : Int) (x6 : Int) (x7 : Int) (x39 : Bool) (x161000 : Bool) (x161001 : List Int) (x161002 : Int) (r : Bool), gnomonlaw08_RoundInside.j0 k x5 x6 x7 x39 x161000 x161001 x161002 = some r → Fin Tryd.prog Gw 4 (nav (bodyOf Tryd.f4) [1, 1, 1, 1, 1, 0, 1] []) ⟨mkT 117 [(3, .s (.lo 0 0)), (5, .s (.i .i64 x5)), (6, .s (.i .u64 x6)), (7, .s (.i .i64 x7)), (39, .s (.b x39))], [some (26, [.b x161000, .sl .u64 x161001, .i .i64 x161002])]⟩ (· = .s (.b r))) ∧ (∀ (x5 : Int) (x6 : Int) (x65 : Bool) (x161000 : Bool) (x161001 : List Int) (x161002 : Int) (r : Bool), gnomonlaw08_RoundInside.j1 k x5 x6 x65 x161000 x161001 x161002 = some r → Fin Tryd.prog Gw 4 (nav (bodyOf Tryd.f4) [1, 1, 1, 1, 1, 1, 1, 0, 1, 1] []) ⟨mkT 117 [(3, .s (.lo 0 0)), (5, .s (.i .i64 x5)), (6, .s (.i .u64 x6)), (65, .s (.b x65))], [some (26, [.b x161000, .sl .u64 x161001, .i .i64 x161002])]⟩ (· = .s (.b r))) ∧ (∀ (x11 : Bool) (x85 : Bool) (x161000 : Bool) (x161001 : List Int) (x161002 : Int) (x184000 : Bool) (x184001 : List Int) (x184002 : Int) (x184003 : Bool) (x184004 : List Int) (x184005 : Int) (r : Bool), gnomonlaw08_RoundInside.j2 k x11 x85 x161000 x161001 x161002 x184000 x184001 x184002 x184003 x184004 x184005 = some r → Fin Tryd.prog Gw 4 (nav (bodyOf Tryd.f4) [1, 1, 1, 1, 1, 1, 1, 1, 1, 0, 1] []) ⟨mkT 117 [(3, .s (.lo 0 0)), (10, .s (.lo 1 0)), (11, .s (.b x11)), (85, .s (.b x85))], [some (26, [.b x161000, .sl .u64 x161001, .i .i64 x161002]), some (28, [.b x184000, .sl .u64 x184001, .i .i64 x184002, .b x184003, .sl .u64 x184004, .i .i64 x184005])]⟩ (· = .s (.b r))) ∧ (∀ (x11 : Bool) (x13 : Int) (x14 : Int) (x99 : Bool) (r : Bool), gnomonlaw08_RoundInside.j3 k x11 x13 x14 x99 = some r → Fin Tryd.prog Gw 4 (nav (bodyOf Tryd.f4) [1, 1, 1, 1, 1, 1, 1, 1, 1, 1, 1, 0, 1] []) ⟨mkT 117 [(11, .s (.b x11)), (13, .s (.i .i64 x13)), (14, .s (.i .i64 x14)), (99, .s (.b x99))], []⟩ (· = .s (.b r)))
 | 0 => ⟨(fun _ _ _ _ _ _ _ _ h => nn h), (fun _ _ _ _ _ _ _ h => nn h), (fun _ _ _ _ _ _ _ _ _ _ _ _ h => nn h), (fun _ _ _ _ _ h => nn h)⟩
 | k + 1 => by
  have ih := gnomonlaw08_RoundInside.jc k
  refine ⟨?_, ?_, ?_, ?_⟩
  ·intro x5 x6 x7 x39 x161000 x161001 x161002 r h
   rw [gnomonlaw08_RoundInside.j0] at h
   rcases ite_e h with ⟨c1, h⟩ | ⟨c1, h⟩
   ·rcases ite_e h with ⟨c2, h⟩ | ⟨c2, h⟩
    ·have h := si h; subst h
     exact jth Tryd.func4 [.br true, .br true, .br true, .br true] (fun e => ai c1 (ai (q1 c2) (ai (q1 c2) (ai (q1 c2) e)))) (by kernel_rfl)
    ·have h := si h; subst h
     exact jth Tryd.func4 [.br true, .br false, .br false, .br false] (fun e => ai c1 (ai (q0 c2) (ai (q0 c2) (ai (q0 c2) e)))) (by kernel_rfl)
   ·obtain ⟨t167, A3, h⟩ := bnd h
    rcases ite_e h with ⟨c4, h⟩ | ⟨c4, h⟩
    ·have h := si h; subst h
     exact jth Tryd.func4 [.br false, .r (.s (.i .u64 t167)), .br true] (fun e => ai (z0 c1) (ai (gnomonlaw08_sign.c A3) (ai c4 e))) (by kernel_rfl)
    ·obtain ⟨bt168, A5, h⟩ := bnd h
     rcases ite_e h with ⟨c6, h⟩ | ⟨c6, h⟩
     ·exact jth Tryd.func4 [.br false, .r (.s (.i .u64 t167)), .br false, .r (.tu [.s (.b bt168.1), .s (.b bt168.2)]), .br false, .br false, .cut 0 [3, 5, 6, 65] [0] []] (fun _ => ai (z0 c1) (ai (gnomonlaw08_sign.c A3) (ai (z0 c4) (ai (gnomonlaw08_finite.c A5) (ai (nt1 c6) (ai (nt1 c6) (ih.2.1 _ _ _ _ _ _ _ h))))))) (by kernel_rfl)
     ·exact jth Tryd.func4 [.br false, .r (.s (.i .u64 t167)), .br false, .r (.tu [.s (.b bt168.1), .s (.b bt168.2)]), .br true, .br true, .cut 0 [3, 5, 6, 65] [0] []] (fun _ => ai (z0 c1) (ai (gnomonlaw08_sign.c A3) (ai (z0 c4) (ai (gnomonlaw08_finite.c A5) (ai (nt0 (z0 c6)) (ai (nt0 (z0 c6)) (ih.2.1 _ _ _ _ _ _ _ h))))))) (by kernel_rfl)
  ·intro x5 x6 x65 x161000 x161001 x161002 r h
   rw [gnomonlaw08_RoundInside.j1] at h
   rcases ite_e h with ⟨c1, h⟩ | ⟨c1, h⟩
   ·obtain ⟨t170, A2, h⟩ := bnd h
    have h := si h; subst h
    exact jth Tryd.func4 [.br true, .r (.s (.b t170))] (fun e => ai c1 (ai (gnomonlaw08_beyond.c A2) e)) (by kernel_rfl)
   ·obtain ⟨bt171, A3, h⟩ := bnd h
    rcases ite_e h with ⟨c4, h⟩ | ⟨c4, h⟩
    ·exact jth Tryd.func4 [.br false, .r (.tu [.ag [.b bt171.1, .sl .u64 bt171.2.1, .i .i64 bt171.2.2.1, .b bt171.2.2.2.1, .sl .u64 bt171.2.2.2.2.1, .i .i64 bt171.2.2.2.2.2.1], .s (.b bt171.2.2.2.2.2.2.1), .s (.i .i64 bt171.2.2.2.2.2.2.2)]), .br false, .br false, .br false, .br false, .br false, .br false, .cut 0 [3, 10, 11, 85] [0, 1] []] (fun _ => ai (z0 c1) (ai (round_Cell.c A3) (ai (n0 c4) (ai (n0 c4) (ai (n0 c4) (ai (by decide : (2 : Int) ≠ 0) (ai (n0 c4) (ai (n0 c4) (ai (n0 c4) (ih.2.2.1 _ _ _ _ _ _ _ _ _ _ _ _ h)))))))))) (by kernel_rfl)
    ·exact jth Tryd.func4 [.br false, .r (.tu [.ag [.b bt171.1, .sl .u64 bt171.2.1, .i .i64 bt171.2.2.1, .b bt171.2.2.2.1, .sl .u64 bt171.2.2.2.2.1, .i .i64 bt171.2.2.2.2.2.1], .s (.b bt171.2.2.2.2.2.2.1), .s (.i .i64 bt171.2.2.2.2.2.2.2)]), .br true, .br true, .br true, .br true, .br true, .br true, .cut 0 [3, 10, 11, 85] [0, 1] []] (fun _ => ai (z0 c1) (ai (round_Cell.c A3) (ai (n1 c4) (ai (n1 c4) (ai (n1 c4) (ai (n1 c4) (ai (n1 c4) (ai (n1 c4) (ih.2.2.1 _ _ _ _ _ _ _ _ _ _ _ _ h))))))))) (by kernel_rfl)
  ·intro x11 x85 x161000 x161001 x161002 x184000 x184001 x184002 x184003 x184004 x184005 r h
   rw [gnomonlaw08_RoundInside.j2] at h
   rcases ite_e h with ⟨c1, h⟩ | ⟨c1, h⟩
   ·have h := si h; subst h
    exact jth Tryd.func4 [.br true] (fun e => ai c1 e) (by kernel_rfl)
   ·obtain ⟨t184, A2, h⟩ := bnd h
    obtain ⟨t185, A3, h⟩ := bnd h
    rcases ite_e h with ⟨c4, h⟩ | ⟨c4, h⟩
    ·exact jth Tryd.func4 [.br false, .r (.s (.i .i64 t184)), .r (.s (.i .i64 t185)), .br true, .br true, .br true, .cut 0 [11, 13, 14, 99] [] []] (fun _ => ai (z0 c1) (ai (gnomonlaw08_at.c A2) (ai (gnomonlaw08_at.c A3) (ai (d1 c4) (ai (d1 c4) (ai (d1 c4) (ih.2.2.2 _ _ _ _ _ h))))))) (by kernel_rfl)
    ·exact jth Tryd.func4 [.br false, .r (.s (.i .i64 t184)), .r (.s (.i .i64 t185)), .br false, .br false, .br false, .cut 0 [11, 13, 14, 99] [] []] (fun _ => ai (z0 c1) (ai (gnomonlaw08_at.c A2) (ai (gnomonlaw08_at.c A3) (ai (d0 c4) (ai (d0 c4) (ai (d0 c4) (ih.2.2.2 _ _ _ _ _ h))))))) (by kernel_rfl)
  ·intro x11 x13 x14 x99 r h
   rw [gnomonlaw08_RoundInside.j3] at h
   rcases ite_e h with ⟨c1, h⟩ | ⟨c1, h⟩
   ·have h := si h; subst h
    exact jth Tryd.func4 [.br true] (fun e => ai c1 e) (by kernel_rfl)
   ·rcases ite_e h with ⟨c2, h⟩ | ⟨c2, h⟩
    ·rcases ite_e h with ⟨c3, h⟩ | ⟨c3, h⟩
     ·have h := si h; subst h
      exact jth Tryd.func4 [.br false, .br true, .br true, .br true, .br true, .br true, .br true, .br true, .br true, .br true] (fun e => ai (z0 c1) (ai (d1 c2) (ai (d1 c2) (ai (d1 c2) (ai (d1 c3) (ai (d1 c3) (ai (d1 c3) (ai (d1 c3) (ai (d1 c3) (ai (d1 c3) e)))))))))) (by kernel_rfl)
     ·rcases ite_e h with ⟨c4, h⟩ | ⟨c4, h⟩
      ·rcases ite_e h with ⟨c5, h⟩ | ⟨c5, h⟩
       ·have h := si h; subst h
        exact jth Tryd.func4 [.br false, .br true, .br true, .br true, .br false, .br false, .br true, .br true, .br false, .br true, .br false, .br true, .br true, .br false, .br true, .br false] (fun e => ai (z0 c1) (ai (d1 c2) (ai (d1 c2) (ai (d1 c2) (ai (d0 c3) (ai (d0 c3) (ai c4 (ai c4 (ai (d0 c3) (ai c4 (ai (d0 c3) (ai (d1 c5) (ai (d1 c5) (ai (d0 c3) (ai (d1 c5) (ai (d0 c3) e)))))))))))))))) (by kernel_rfl)
       ·have h := si h; subst h
        exact jth Tryd.func4 [.br false, .br true, .br true, .br true, .br false, .br false, .br true, .br true, .br false, .br true, .br false, .br false, .br false, .br false, .br false, .br false] (fun e => ai (z0 c1) (ai (d1 c2) (ai (d1 c2) (ai (d1 c2) (ai (d0 c3) (ai (d0 c3) (ai c4 (ai c4 (ai (d0 c3) (ai c4 (ai (d0 c3) (ai (d0 c5) (ai (d0 c5) (ai (d0 c3) (ai (d0 c5) (ai (d0 c3) e)))))))))))))))) (by kernel_rfl)
      ·have h := si h; subst h
       exact jth Tryd.func4 [.br false, .br true, .br true, .br true, .br false, .br false, .br false, .br false, .br false, .br false, .br false, .br false, .br false, .br false, .br false, .br false] (fun e => ai (z0 c1) (ai (d1 c2) (ai (d1 c2) (ai (d1 c2) (ai (d0 c3) (ai (d0 c3) (ai (z0 c4) (ai (z0 c4) (ai (d0 c3) (ai (z0 c4) (ai (d0 c3) (ai ff (ai ff (ai (d0 c3) (ai ff (ai (d0 c3) e)))))))))))))))) (by kernel_rfl)
    ·rcases ite_e h with ⟨c6, h⟩ | ⟨c6, h⟩
     ·rcases ite_e h with ⟨c7, h⟩ | ⟨c7, h⟩
      ·have h := si h; subst h
       exact jth Tryd.func4 [.br false, .br false, .br false, .br false, .br false, .br false, .br true, .br true, .br false, .br true, .br false, .br true, .br true, .br false, .br true, .br false] (fun e => ai (z0 c1) (ai (d0 c2) (ai (d0 c2) (ai (d0 c2) (ai ff (ai ff (ai c6 (ai c6 (ai ff (ai c6 (ai ff (ai (d1 c7) (ai (d1 c7) (ai ff (ai (d1 c7) (ai ff e)))))))))))))))) (by kernel_rfl)
      ·have h := si h; subst h
       exact jth Tryd.func4 [.br false, .br false, .br false, .br false, .br false, .br false, .br true, .br true, .br false, .br true, .br false, .br false, .br false, .br false, .br false, .br false] (fun e => ai (z0 c1) (ai (d0 c2) (ai (d0 c2) (ai (d0 c2) (ai ff (ai ff (ai c6 (ai c6 (ai ff (ai c6 (ai ff (ai (d0 c7) (ai (d0 c7) (ai ff (ai (d0 c7) (ai ff e)))))))))))))))) (by kernel_rfl)
     ·have h := si h; subst h
      exact jth Tryd.func4 [.br false, .br false, .br false, .br false, .br false, .br false, .br false, .br false, .br false, .br false, .br false, .br false, .br false, .br false, .br false, .br false] (fun e => ai (z0 c1) (ai (d0 c2) (ai (d0 c2) (ai (d0 c2) (ai ff (ai ff (ai (z0 c6) (ai (z0 c6) (ai ff (ai (z0 c6) (ai ff (ai ff (ai ff (ai ff (ai ff (ai ff e)))))))))))))))) (by kernel_rfl)
theorem gnomonlaw08_RoundInside.c {k : Nat} {a0 : Bool} {a1_0 : Bool} {l1_1 : List Int} {a1_2 : Int} {r : Bool} (h : gnomonlaw08_RoundInside.f k a0 a1_0 l1_1 a1_2 = some r) : Con Tryd.prog Gw 4 [.s (.b a0), .ag [.b a1_0, .sl .u64 l1_1, .i .i64 a1_2]] (· = .s (.b r)) := by
 unfold gnomonlaw08_RoundInside.f at h
 obtain ⟨t161, A1, h⟩ := bnd h
 obtain ⟨t162, A2, h⟩ := bnd h
 rcases ite_e h with ⟨c3, h⟩ | ⟨c3, h⟩
 ·obtain ⟨bt163, A4, h⟩ := bnd h
  obtain ⟨t165, A5, h⟩ := bnd h
  rcases ite_e h with ⟨c6, h⟩ | ⟨c6, h⟩
  ·rcases ite_e h with ⟨c7, h⟩ | ⟨c7, h⟩
   ·obtain ⟨t166, A8, h⟩ := bnd h
    exact pth Tryd.func4 [.r (.s (.i .i64 t161)), .r (.s (.b t162)), .br false, .r (.tu [.s (.i .u64 bt163.1), .s (.i .i64 bt163.2)]), .r (.s (.b t165)), .br false, .br false, .br false, .r (.s (.b t166)), .br false, .cut 0 [3, 5, 6, 7, 39] [0] []] (fun _ => ai (gnomonlaw08_format.c A1) (ai (gnomonlaw08_awake.c A2) (ai (nt1 c3) (ai (round_Nearest.c A4) (ai (gnomonref05_DocForm.c A5) (ai (nt1 c6) (ai (n0 c7) (ai (n0 c7) (ai (gnomonref05_Nought.c A8) (ai (n0 c7) ((gnomonlaw08_RoundInside.jc k).1 _ _ _ _ _ _ _ _ h))))))))))) (by kernel_rfl)
   ·exact pth Tryd.func4 [.r (.s (.i .i64 t161)), .r (.s (.b t162)), .br false, .r (.tu [.s (.i .u64 bt163.1), .s (.i .i64 bt163.2)]), .r (.s (.b t165)), .br false, .br true, .br true, .br true, .cut 0 [3, 5, 6, 7, 39] [0] []] (fun _ => ai (gnomonlaw08_format.c A1) (ai (gnomonlaw08_awake.c A2) (ai (nt1 c3) (ai (round_Nearest.c A4) (ai (gnomonref05_DocForm.c A5) (ai (nt1 c6) (ai (n1 c7) (ai (n1 c7) (ai (n1 c7) ((gnomonlaw08_RoundInside.jc k).1 _ _ _ _ _ _ _ _ h)))))))))) (by kernel_rfl)
  ·rcases ite_e h with ⟨c9, h⟩ | ⟨c9, h⟩
   ·have h := si h; subst h
    exact pth Tryd.func4 [.r (.s (.i .i64 t161)), .r (.s (.b t162)), .br false, .r (.tu [.s (.i .u64 bt163.1), .s (.i .i64 bt163.2)]), .r (.s (.b t165)), .br true, .br true, .br true, .br true] (fun e => ai (gnomonlaw08_format.c A1) (ai (gnomonlaw08_awake.c A2) (ai (nt1 c3) (ai (round_Nearest.c A4) (ai (gnomonref05_DocForm.c A5) (ai (nt0 (z0 c6)) (ai (q1 c9) (ai (q1 c9) (ai (q1 c9) e))))))))) (by kernel_rfl)
   ·have h := si h; subst h
    exact pth Tryd.func4 [.r (.s (.i .i64 t161)), .r (.s (.b t162)), .br false, .r (.tu [.s (.i .u64 bt163.1), .s (.i .i64 bt163.2)]), .r (.s (.b t165)), .br true, .br false, .br false, .br false] (fun e => ai (gnomonlaw08_format.c A1) (ai (gnomonlaw08_awake.c A2) (ai (nt1 c3) (ai (round_Nearest.c A4) (ai (gnomonref05_DocForm.c A5) (ai (nt0 (z0 c6)) (ai (q0 c9) (ai (q0 c9) (ai (q0 c9) e))))))))) (by kernel_rfl)
 ·have h := si h; subst h
  exact pth Tryd.func4 [.r (.s (.i .i64 t161)), .r (.s (.b t162)), .br true] (fun e => ai (gnomonlaw08_format.c A1) (ai (gnomonlaw08_awake.c A2) (ai (nt0 (z0 c3)) e))) (by kernel_rfl)
end Go.Proofs.YtelfmddcjlocpaaDoor.PLib
