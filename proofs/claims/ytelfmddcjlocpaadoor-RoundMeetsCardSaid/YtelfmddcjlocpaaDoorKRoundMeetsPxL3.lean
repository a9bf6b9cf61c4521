/- Functions of the program as plain Lean functions (definitions as the print's), and that the machine's calls do what they do (contracts 'X.c', by Px). Condition: math/bits' table is laid. -/
import Derived.Test.YtelfmddcjlocpaaDoorKRoundMeetsPxK
import Derived.Test.YtelfmddcjlocpaaDoorKRoundMeetsPRefx0
import Derived.Test.YtelfmddcjlocpaaDoorKRoundMeetsPxRef
import Derived.Test.YtelfmddcjlocpaaDoorKRoundMeetsPxL0
import Derived.Test.YtelfmddcjlocpaaDoorKRoundMeetsPxL1
import Derived.Test.YtelfmddcjlocpaaDoorKRoundMeetsPxL2
set_option linter.unusedVariables false
namespace Go.Proofs.YtelfmddcjlocpaaDoor.PLib
open Go Go.RowKit Go.Proofs.YtelfmddcjlocpaaDoorW.PrintWords Go.Proofs.YtelfmddcjlocpaaDoorW.PrintMore Go.Proofs.YtelfmddcjlocpaaDoor.Given Go.Proofs.YtelfmddcjlocpaaDoor.Px Go.Proofs.YtelfmddcjlocpaaDoor.PRef
mutual
def gnomonlaw08_RoundMeets.j0 : Nat → Int → Int → Bool → Option (Bool)
 | 0, _, _, _ => none
 | k + 1, x1, x5, x42 => if x42 = true then (some false) else ((binary_Next.f k x5 x1).bind fun bt612 => ((gnomonlaw08_finite.f x5 x1).bind fun bt614 => (if bt614.1 = true then (if bt614.2 = true then (gnomonlaw08_RoundMeets.j1 k x1 x5 bt612.1 true) else (gnomonlaw08_RoundMeets.j1 k x1 x5 bt612.1 (bt612.2 != 0))) else (gnomonlaw08_RoundMeets.j1 k x1 x5 bt612.1 true))))
def gnomonlaw08_RoundMeets.j1 : Nat → Int → Int → Int → Bool → Option (Bool)
 | 0, _, _, _, _ => none
 | k + 1, x1, x5, x9, x63 => if x63 = true then (some true) else ((round_Cell.f k x5 x1).bind fun bt616 => (if bt616.2.2.2.2.2.2.2 = 0 then ((gnomonlaw08_at.f k bt616.1 bt616.2.1 bt616.2.2.1 bt616.2.2.2.1 bt616.2.2.2.2.1 bt616.2.2.2.2.2.1).bind fun t628 => (gnomonlaw08_RoundMeets.j2 k x1 x5 x9 bt616.2.2.2.2.2.2.1 (t628 != (-1)) bt616.1 bt616.2.1 bt616.2.2.1 bt616.2.2.2.1 bt616.2.2.2.2.1 bt616.2.2.2.2.2.1)) else (gnomonlaw08_RoundMeets.j2 k x1 x5 x9 bt616.2.2.2.2.2.2.1 true bt616.1 bt616.2.1 bt616.2.2.1 bt616.2.2.2.1 bt616.2.2.2.2.1 bt616.2.2.2.2.2.1)))
def gnomonlaw08_RoundMeets.j2 : Nat → Int → Int → Int → Bool → Bool → Bool → List Int → Int → Bool → List Int → Int → Option (Bool)
 | 0, _, _, _, _, _, _, _, _, _, _, _ => none
 | k + 1, x1, x5, x9, x13, x80, x601000, x601001, x601002, x601003, x601004, x601005 => if x80 = true then (some false) else ((round_Nearest.f k x5 x601003 x601004 x601005).bind fun bt629 => (if bt629.2 = 0 then (if x13 = true then (if bt629.1 = x1 then (gnomonlaw08_RoundMeets.j3 k x5 x9 x13 false x601000 x601001 x601002 x601003 x601004 x601005) else (gnomonlaw08_RoundMeets.j3 k x5 x9 x13 true x601000 x601001 x601002 x601003 x601004 x601005)) else ((gnomonlaw08_rank.f k x5 bt629.1).bind fun t631 => ((gnomonlaw08_rank.f k x5 x1).bind fun t632 => (gnomonlaw08_RoundMeets.j3 k x5 x9 x13 (t631 != (wrap64 (t632 + 1))) x601000 x601001 x601002 x601003 x601004 x601005)))) else (gnomonlaw08_RoundMeets.j3 k x5 x9 x13 true x601000 x601001 x601002 x601003 x601004 x601005)))
def gnomonlaw08_RoundMeets.j3 : Nat → Int → Int → Bool → Bool → Bool → List Int → Int → Bool → List Int → Int → Option (Bool)
 | 0, _, _, _, _, _, _, _, _, _, _ => none
 | k + 1, x5, x9, x13, x111, x601000, x601001, x601002, x601003, x601004, x601005 => if x111 = true then (some false) else ((gnomonlaw08_finite.f x5 x9).bind fun bt633 => (if bt633.1 = true then (gnomonlaw08_RoundMeets.j4 k x5 x9 x13 bt633.2 x601000 x601001 x601002 x601003 x601004 x601005) else (gnomonlaw08_RoundMeets.j4 k x5 x9 x13 true x601000 x601001 x601002 x601003 x601004 x601005)))
def gnomonlaw08_RoundMeets.j4 : Nat → Int → Int → Bool → Bool → Bool → List Int → Int → Bool → List Int → Int → Option (Bool)
 | 0, _, _, _, _, _, _, _, _, _, _ => none
 | k + 1, x5, x9, x13, x122, x601000, x601001, x601002, x601003, x601004, x601005 => if x122 = true then (some true) else ((round_Cell.f k x5 x9).bind fun bt635 => (if bt635.2.2.2.2.2.2.2 = 0 then ((gnomonlaw08_at.f k x601003 x601004 x601005 bt635.1 bt635.2.1 bt635.2.2.1).bind fun t648 => (if t648 = 0 then (some (x13 != bt635.2.2.2.2.2.2.1)) else (some false))) else (some false)))
end
def gnomonlaw08_RoundMeets.f (k : Nat) (a0 : Bool) (a1 : Int) : Option (Bool) := (gnomonlaw08_format.f a0).bind fun t586 => ((gnomonlaw08_pat.f a0 a1).bind fun t587 => ((round_Cell.f k 64 2).bind fun bt588 => ((gnomonlaw08_num.f k 3 (-1075)).bind fun bt601 => ((gnomonlaw08_num.f k 5 (-1075)).bind fun bt606 => ((gnomonlaw08_spans.f k bt588.1 bt588.2.1 bt588.2.2.1 bt588.2.2.2.1 bt588.2.2.2.2.1 bt588.2.2.2.2.2.1 bt601.1 bt601.2.1 bt601.2.2 bt606.1 bt606.2.1 bt606.2.2).bind fun t611 => (if t611 = true then (if bt588.2.2.2.2.2.2.1 = true then (gnomonlaw08_RoundMeets.j0 k t587 t586 (bt588.2.2.2.2.2.2.2 != 0)) else (gnomonlaw08_RoundMeets.j0 k t587 t586 true)) else (gnomonlaw08_RoundMeets.j0 k t587 t586 true)))))))
theorem gnomonlaw08_RoundMeets.jc : ∀ k : Nat, (∀ (x1 : Int) (x5 : Int) (x42 : Bool) (r : Bool), gnomonlaw08_RoundMeets.j0 k x1 x5 x42 = some r → Fin Tryd.prog Gw 5 (nav (bodyOf Tryd.f5) [1, 1, 1, 1, 0, 1] []) ⟨mkT 145 [(1, .s (.i .u64 x1)), (5, .s (.i .i64 x5)), (6, .s (.lo 0 0)), (42, .s (.b x42))], [some (28, [.top, .top, .top, .top, .top, .top])]⟩ (· = .s (.b r))) ∧ (∀ (x1 : Int) (x5 : Int) (x9 : Int) (x63 : Bool) (r : Bool), gnomonlaw08_RoundMeets.j1 k x1 x5 x9 x63 = some r → Fin Tryd.prog Gw 5 (nav (bodyOf Tryd.f5) [1, 1, 1, 1, 1, 1, 0, 1, 1] []) ⟨mkT 145 [(1, .s (.i .u64 x1)), (5, .s (.i .i64 x5)), (6, .s (.lo 0 0)), (9, .s (.i .u64 x9)), (63, .s (.b x63))], [some (28, [.top, .top, .top, .top, .top, .top])]⟩ (· = .s (.b r))) ∧ (∀ (x1 : Int) (x5 : Int) (x9 : Int) (x13 : Bool) (x80 : Bool) (x601000 : Bool) (x601001 : List Int) (x601002 : Int) (x601003 : Bool) (x601004 : List Int) (x601005 : Int) (r : Bool), gnomonlaw08_RoundMeets.j2 k x1 x5 x9 x13 x80 x601000 x601001 x601002 x601003 x601004 x601005 = some r → Fin Tryd.prog Gw 5 (nav (bodyOf Tryd.f5) [1, 1, 1, 1, 1, 1, 1, 1, 0, 1] []) ⟨mkT 145 [(1, .s (.i .u64 x1)), (5, .s (.i .i64 x5)), (6, .s (.lo 0 0)), (9, .s (.i .u64 x9)), (13, .s (.b x13)), (80, .s (.b x80))], [some (28, [.b x601000, .sl .u64 x601001, .i .i64 x601002, .b x601003, .sl .u64 x601004, .i .i64 x601005])]⟩ (· = .s (.b r))) ∧ (∀ (x5 : Int) (x9 : Int) (x13 : Bool) (x111 : Bool) (x601000 : Bool) (x601001 : List Int) (x601002 : Int) (x601003 : Bool) (x601004 : List Int) (x601005 : Int) (r : Bool), gnomonlaw08_RoundMeets.j3 k x5 x9 x13 x111 x601000 x601001 x601002 x601003 x601004 x601005 = some r → Fin Tryd.prog Gw 5 (nav (bodyOf Tryd.f5) [1, 1, 1, 1, 1, 1, 1, 1, 1, 1, 0, 1] []) ⟨mkT 145 [(5, .s (.i .i64 x5)), (6, .s (.lo 0 0)), (9, .s (.i .u64 x9)), (13, .s (.b x13)), (111, .s (.b x111))], [some (28, [.b x601000, .sl .u64 x601001, .i .i64 x601002, .b x601003, .sl .u64 x601004, .i .i64 x601005])]⟩ (· = .s (.b r))) ∧ (∀ (x5 : Int) (x9 : Int) (x13 : Bool) (x122 : Bool) (x601000 : Bool) (x601001 : List Int) (x601002 : Int) (x601003 : Bool) (x601004 : List Int) (x601005 : Int) (r : Bool), gnomonlaw08_RoundMeets.j4 k x5 x9 x13 x122 x601000 x601001 x601002 x601003 x601004 x601005 = some r → Fin Tryd.prog Gw 5 (nav (bodyOf Tryd.f5) [1, 1, 1, 1, 1, 1, 1, 1, 1, 1, 1, 0, 1, 1] []) ⟨mkT 145 [(5, .s (.i .i64 x5)), (6, .s (.lo 0 0)), (9, .s (.i .u64 x9)), (13, .s (.b x13)), (122, .s (.b x122))], [some (28, [.b x601000, .sl .u64 x601001, .i .i64 x601002, .b x601003, .sl .u64 x601004, .i .i64 x601005])]⟩ (· = .s (.b r)))
 | 0 => ⟨(fun _ _ _ _ h => nn h), (fun _ _ _ _ _ h => nn h), (fun _ _ _ _ _ _ _ _ _ _ _ _ h => nn h), (fun _ _ _ _ _ _ _ _ _ _ _ h => nn h), (fun _ _ _ _ _ _ _ _ _ _ _ h => nn h)⟩
 | k + 1 => by
  have ih := gnomonlaw08_RoundMeets.jc k
  refine ⟨?_, ?_, ?_, ?_, ?_⟩
  ·intro x1 x5 x42 r h
   rw [gnomonlaw08_RoundMeets.j0] at h
   rcases ite_e h with ⟨c1, h⟩ | ⟨c1, h⟩
   ·have h := si h; subst h
    exact jth Tryd.func5 [.br true] (fun e => ai c1 e) (by kernel_rfl)
   ·obtain ⟨bt612, A2, h⟩ := bnd h
    obtain ⟨bt614, A3, h⟩ := bnd h
    rcases ite_e h with ⟨c4, h⟩ | ⟨c4, h⟩
    ·rcases ite_e h with ⟨c5, h⟩ | ⟨c5, h⟩
     ·exact jth Tryd.func5 [.br false, .r (.tu [.s (.i .u64 bt612.1), .s (.i .i64 bt612.2)]), .r (.tu [.s (.b bt614.1), .s (.b bt614.2)]), .br false, .br false, .br true, .br true, .br true, .cut 0 [1, 5, 6, 9, 63] [0] [(0, 0), (0, 1), (0, 2), (0, 3), (0, 4), (0, 5)]] (fun _ => ai (z0 c1) (ai (binary_Next.c A2) (ai (gnomonlaw08_finite.c A3) (ai (nt1 c4) (ai (nt1 c4) (ai c5 (ai c5 (ai c5 (ih.2.1 _ _ _ _ _ h))))))))) (by kernel_rfl)
     ·exact jth Tryd.func5 [.br false, .r (.tu [.s (.i .u64 bt612.1), .s (.i .i64 bt612.2)]), .r (.tu [.s (.b bt614.1), .s (.b bt614.2)]), .br false, .br false, .br false, .br false, .br false, .cut 0 [1, 5, 6, 9, 63] [0] [(0, 0), (0, 1), (0, 2), (0, 3), (0, 4), (0, 5)]] (fun _ => ai (z0 c1) (ai (binary_Next.c A2) (ai (gnomonlaw08_finite.c A3) (ai (nt1 c4) (ai (nt1 c4) (ai (z0 c5) (ai (z0 c5) (ai (z0 c5) (ih.2.1 _ _ _ _ _ h))))))))) (by kernel_rfl)
    ·exact jth Tryd.func5 [.br false, .r (.tu [.s (.i .u64 bt612.1), .s (.i .i64 bt612.2)]), .r (.tu [.s (.b bt614.1), .s (.b bt614.2)]), .br true, .br true, .br true, .br true, .br true, .cut 0 [1, 5, 6, 9, 63] [0] [(0, 0), (0, 1), (0, 2), (0, 3), (0, 4), (0, 5)]] (fun _ => ai (z0 c1) (ai (binary_Next.c A2) (ai (gnomonlaw08_finite.c A3) (ai (nt0 (z0 c4)) (ai (nt0 (z0 c4)) (ai tt (ai tt (ai tt (ih.2.1 _ _ _ _ _ h))))))))) (by kernel_rfl)
  ·intro x1 x5 x9 x63 r h
   rw [gnomonlaw08_RoundMeets.j1] at h
   rcases ite_e h with ⟨c1, h⟩ | ⟨c1, h⟩
   ·have h := si h; subst h
    exact jth Tryd.func5 [.br true] (fun e => ai c1 e) (by kernel_rfl)
   ·obtain ⟨bt616, A2, h⟩ := bnd h
    rcases ite_e h with ⟨c3, h⟩ | ⟨c3, h⟩
    ·obtain ⟨t628, A4, h⟩ := bnd h
     exact jth Tryd.func5 [.br false, .r (.tu [.ag [.b bt616.1, .sl .u64 bt616.2.1, .i .i64 bt616.2.2.1, .b bt616.2.2.2.1, .sl .u64 bt616.2.2.2.2.1, .i .i64 bt616.2.2.2.2.2.1], .s (.b bt616.2.2.2.2.2.2.1), .s (.i .i64 bt616.2.2.2.2.2.2.2)]), .br false, .br false, .br false, .br false, .br false, .r (.s (.i .i64 t628)), .br false, .br false, .cut 0 [1, 5, 6, 9, 13, 80] [0] []] (fun _ => ai (z0 c1) (ai (round_Cell.c A2) (ai (n0 c3) (ai (n0 c3) (ai (n0 c3) (ai (n0 c3) (ai (n0 c3) (ai (gnomonlaw08_at.c A4) (ai (n0 c3) (ai (n0 c3) (ih.2.2.1 _ _ _ _ _ _ _ _ _ _ _ _ h))))))))))) (by kernel_rfl)
    ·exact jth Tryd.func5 [.br false, .r (.tu [.ag [.b bt616.1, .sl .u64 bt616.2.1, .i .i64 bt616.2.2.1, .b bt616.2.2.2.1, .sl .u64 bt616.2.2.2.2.1, .i .i64 bt616.2.2.2.2.2.1], .s (.b bt616.2.2.2.2.2.2.1), .s (.i .i64 bt616.2.2.2.2.2.2.2)]), .br true, .br true, .br true, .br true, .br true, .br true, .br true, .cut 0 [1, 5, 6, 9, 13, 80] [0] []] (fun _ => ai (z0 c1) (ai (round_Cell.c A2) (ai (n1 c3) (ai (n1 c3) (ai (n1 c3) (ai (n1 c3) (ai (n1 c3) (ai (n1 c3) (ai (n1 c3) (ih.2.2.1 _ _ _ _ _ _ _ _ _ _ _ _ h)))))))))) (by kernel_rfl)
  ·intro x1 x5 x9 x13 x80 x601000 x601001 x601002 x601003 x601004 x601005 r h
   rw [gnomonlaw08_RoundMeets.j2] at h
   rcases ite_e h with ⟨c1, h⟩ | ⟨c1, h⟩
   ·have h := si h; subst h
    exact jth Tryd.func5 [.br true] (fun e => ai c1 e) (by kernel_rfl)
   ·obtain ⟨bt629, A2, h⟩ := bnd h
    rcases ite_e h with ⟨c3, h⟩ | ⟨c3, h⟩
    ·rcases ite_e h with ⟨c4, h⟩ | ⟨c4, h⟩
     ·rcases ite_e h with ⟨c5, h⟩ | ⟨c5, h⟩
      ·exact jth Tryd.func5 [.br false, .r (.tu [.s (.i .u64 bt629.1), .s (.i .i64 bt629.2)]), .br false, .br false, .br true, .br true, .br true, .br false, .br true, .br false, .br false, .br false, .br false, .br false, .br false, .br false, .br false, .br false, .br false, .br false, .br false, .br false, .br false, .br false, .cut 0 [5, 6, 9, 13, 111] [0] []] (fun _ => ai (z0 c1) (ai (round_Nearest.c A2) (ai (n0 c3) (ai (n0 c3) (ai c4 (ai c4 (ai c4 (ai (n0 c3) (ai c4 (ai (n0 c3) (ai (n0 c5) (ai (n0 c5) (ai (n0 c5) (ai (nt1 c4) (ai (nt1 c4) (ai (nt1 c4) (ai (nt1 c4) (ai (nt1 c4) (ai (nt1 c4) (ai (nt1 c4) (ai (nt1 c4) (ai (n0 c5) (ai (nt1 c4) (ai (n0 c5) (ih.2.2.2.1 _ _ _ _ _ _ _ _ _ _ _ h))))))))))))))))))))))))) (by kernel_rfl)
      ·exact jth Tryd.func5 [.br false, .r (.tu [.s (.i .u64 bt629.1), .s (.i .i64 bt629.2)]), .br false, .br false, .br true, .br true, .br true, .br false, .br true, .br false, .br true, .br true, .br true, .br true, .br true, .cut 0 [5, 6, 9, 13, 111] [0] []] (fun _ => ai (z0 c1) (ai (round_Nearest.c A2) (ai (n0 c3) (ai (n0 c3) (ai c4 (ai c4 (ai c4 (ai (n0 c3) (ai c4 (ai (n0 c3) (ai (n1 c5) (ai (n1 c5) (ai (n1 c5) (ai (n1 c5) (ai (n1 c5) (ih.2.2.2.1 _ _ _ _ _ _ _ _ _ _ _ h)))))))))))))))) (by kernel_rfl)
     ·obtain ⟨t631, A6, h⟩ := bnd h
      obtain ⟨t632, A7, h⟩ := bnd h
      exact jth Tryd.func5 [.br false, .r (.tu [.s (.i .u64 bt629.1), .s (.i .i64 bt629.2)]), .br false, .br false, .br false, .br false, .br false, .br false, .br false, .br false, .br false, .br false, .br false, .br true, .br true, .br true, .r (.s (.i .i64 t631)), .br true, .br true, .br true, .r (.s (.i .i64 t632)), .br true, .br true, .br false, .br true, .br false, .cut 0 [5, 6, 9, 13, 111] [0] []] (fun _ => ai (z0 c1) (ai (round_Nearest.c A2) (ai (n0 c3) (ai (n0 c3) (ai (z0 c4) (ai (z0 c4) (ai (z0 c4) (ai (n0 c3) (ai (z0 c4) (ai (n0 c3) (ai ff (ai ff (ai ff (ai (nt0 (z0 c4)) (ai (nt0 (z0 c4)) (ai (nt0 (z0 c4)) (ai (gnomonlaw08_rank.c A6) (ai (nt0 (z0 c4)) (ai (nt0 (z0 c4)) (ai (nt0 (z0 c4)) (ai (gnomonlaw08_rank.c A7) (ai (nt0 (z0 c4)) (ai (nt0 (z0 c4)) (ai ff (ai (nt0 (z0 c4)) (ai ff (ih.2.2.2.1 _ _ _ _ _ _ _ _ _ _ _ h))))))))))))))))))))))))))) (by kernel_rfl)
    ·exact jth Tryd.func5 [.br false, .r (.tu [.s (.i .u64 bt629.1), .s (.i .i64 bt629.2)]), .br true, .br true, .br true, .br true, .br true, .br true, .br true, .br true, .br true, .cut 0 [5, 6, 9, 13, 111] [0] []] (fun _ => ai (z0 c1) (ai (round_Nearest.c A2) (ai (n1 c3) (ai (n1 c3) (ai (n1 c3) (ai (n1 c3) (ai tt (ai tt (ai tt (ai tt (ai tt (ih.2.2.2.1 _ _ _ _ _ _ _ _ _ _ _ h)))))))))))) (by kernel_rfl)
  ·intro x5 x9 x13 x111 x601000 x601001 x601002 x601003 x601004 x601005 r h
   rw [gnomonlaw08_RoundMeets.j3] at h
   rcases ite_e h with ⟨c1, h⟩ | ⟨c1, h⟩
   ·have h := si h; subst h
    exact jth Tryd.func5 [.br true] (fun e => ai c1 e) (by kernel_rfl)
   ·obtain ⟨bt633, A2, h⟩ := bnd h
    rcases ite_e h with ⟨c3, h⟩ | ⟨c3, h⟩
    ·exact jth Tryd.func5 [.br false, .r (.tu [.s (.b bt633.1), .s (.b bt633.2)]), .br false, .br false, .cut 0 [5, 6, 9, 13, 122] [0] []] (fun _ => ai (z0 c1) (ai (gnomonlaw08_finite.c A2) (ai (nt1 c3) (ai (nt1 c3) (ih.2.2.2.2 _ _ _ _ _ _ _ _ _ _ _ h))))) (by kernel_rfl)
    ·exact jth Tryd.func5 [.br false, .r (.tu [.s (.b bt633.1), .s (.b bt633.2)]), .br true, .br true, .cut 0 [5, 6, 9, 13, 122] [0] []] (fun _ => ai (z0 c1) (ai (gnomonlaw08_finite.c A2) (ai (nt0 (z0 c3)) (ai (nt0 (z0 c3)) (ih.2.2.2.2 _ _ _ _ _ _ _ _ _ _ _ h))))) (by kernel_rfl)
  ·intro x5 x9 x13 x122 x601000 x601001 x601002 x601003 x601004 x601005 r h
   rw [gnomonlaw08_RoundMeets.j4] at h
   rcases ite_e h with ⟨c1, h⟩ | ⟨c1, h⟩
   ·have h := si h; subst h
    exact jth Tryd.func5 [.br true] (fun e => ai c1 e) (by kernel_rfl)
   ·obtain ⟨bt635, A2, h⟩ := bnd h
    rcases ite_e h with ⟨c3, h⟩ | ⟨c3, h⟩
    ·obtain ⟨t648, A4, h⟩ := bnd h
     rcases ite_e h with ⟨c5, h⟩ | ⟨c5, h⟩
     ·have h := si h; subst h
      exact jth Tryd.func5 [.br false, .r (.tu [.ag [.b bt635.1, .sl .u64 bt635.2.1, .i .i64 bt635.2.2.1, .b bt635.2.2.2.1, .sl .u64 bt635.2.2.2.2.1, .i .i64 bt635.2.2.2.2.2.1], .s (.b bt635.2.2.2.2.2.2.1), .s (.i .i64 bt635.2.2.2.2.2.2.2)]), .br true, .br true, .br true, .br true, .br true, .r (.s (.i .i64 t648)), .br true, .br true, .br true, .br true, .br true, .br true] (fun e => ai (z0 c1) (ai (round_Cell.c A2) (ai (q1 c3) (ai (q1 c3) (ai (q1 c3) (ai (q1 c3) (ai (q1 c3) (ai (gnomonlaw08_at.c A4) (ai (q1 c3) (ai (q1 c3) (ai (q1 c5) (ai (q1 c5) (ai (q1 c5) (ai (q1 c5) e)))))))))))))) (by kernel_rfl)
     ·have h := si h; subst h
      exact jth Tryd.func5 [.br false, .r (.tu [.ag [.b bt635.1, .sl .u64 bt635.2.1, .i .i64 bt635.2.2.1, .b bt635.2.2.2.1, .sl .u64 bt635.2.2.2.2.1, .i .i64 bt635.2.2.2.2.2.1], .s (.b bt635.2.2.2.2.2.2.1), .s (.i .i64 bt635.2.2.2.2.2.2.2)]), .br true, .br true, .br true, .br true, .br true, .r (.s (.i .i64 t648)), .br true, .br true, .br false, .br false, .br false, .br false] (fun e => ai (z0 c1) (ai (round_Cell.c A2) (ai (q1 c3) (ai (q1 c3) (ai (q1 c3) (ai (q1 c3) (ai (q1 c3) (ai (gnomonlaw08_at.c A4) (ai (q1 c3) (ai (q1 c3) (ai (q0 c5) (ai (q0 c5) (ai (q0 c5) (ai (q0 c5) e)))))))))))))) (by kernel_rfl)
    ·have h := si h; subst h
     exact jth Tryd.func5 [.br false, .r (.tu [.ag [.b bt635.1, .sl .u64 bt635.2.1, .i .i64 bt635.2.2.1, .b bt635.2.2.2.1, .sl .u64 bt635.2.2.2.2.1, .i .i64 bt635.2.2.2.2.2.1], .s (.b bt635.2.2.2.2.2.2.1), .s (.i .i64 bt635.2.2.2.2.2.2.2)]), .br false, .br false, .br false, .br false, .br false, .br false, .br false, .br false, .br false, .br false, .br false] (fun e => ai (z0 c1) (ai (round_Cell.c A2) (ai (q0 c3) (ai (q0 c3) (ai (q0 c3) (ai (q0 c3) (ai (q0 c3) (ai (q0 c3) (ai (q0 c3) (ai ff (ai ff (ai ff (ai ff e))))))))))))) (by kernel_rfl)
theorem gnomonlaw08_RoundMeets.c {k : Nat} {a0 : Bool} {a1 : Int} {r : Bool} (h : gnomonlaw08_RoundMeets.f k a0 a1 = some r) : Con Tryd.prog Gw 5 [.s (.b a0), .s (.i .u64 a1)] (· = .s (.b r)) := by
 unfold gnomonlaw08_RoundMeets.f at h
 obtain ⟨t586, A1, h⟩ := bnd h
 obtain ⟨t587, A2, h⟩ := bnd h
 obtain ⟨bt588, A3, h⟩ := bnd h
 obtain ⟨bt601, A4, h⟩ := bnd h
 obtain ⟨bt606, A5, h⟩ := bnd h
 obtain ⟨t611, A6, h⟩ := bnd h
 rcases ite_e h with ⟨c7, h⟩ | ⟨c7, h⟩
 ·rcases ite_e h with ⟨c8, h⟩ | ⟨c8, h⟩
  ·exact pth Tryd.func5 [.r (.s (.i .i64 t586)), .r (.s (.i .u64 t587)), .r (.tu [.ag [.b bt588.1, .sl .u64 bt588.2.1, .i .i64 bt588.2.2.1, .b bt588.2.2.2.1, .sl .u64 bt588.2.2.2.2.1, .i .i64 bt588.2.2.2.2.2.1], .s (.b bt588.2.2.2.2.2.2.1), .s (.i .i64 bt588.2.2.2.2.2.2.2)]), .r (.ag [.b bt601.1, .sl .u64 bt601.2.1, .i .i64 bt601.2.2]), .r (.ag [.b bt606.1, .sl .u64 bt606.2.1, .i .i64 bt606.2.2]), .r (.s (.b t611)), .br false, .br false, .br false, .br false, .br false, .br false, .cut 0 [1, 5, 6, 42] [0] [(0, 0), (0, 1), (0, 2), (0, 3), (0, 4), (0, 5)]] (fun _ => ai (gnomonlaw08_format.c A1) (ai (gnomonlaw08_pat.c A2) (ai (round_Cell.c A3) (ai (gnomonlaw08_num.c A4) (ai (gnomonlaw08_num.c A5) (ai (gnomonlaw08_spans.c A6) (ai (nt1 c7) (ai (nt1 c7) (ai (nt1 c7) (ai (nt1 c8) (ai (nt1 c8) (ai (nt1 c8) ((gnomonlaw08_RoundMeets.jc k).1 _ _ _ _ h))))))))))))) (by kernel_rfl)
  ·exact pth Tryd.func5 [.r (.s (.i .i64 t586)), .r (.s (.i .u64 t587)), .r (.tu [.ag [.b bt588.1, .sl .u64 bt588.2.1, .i .i64 bt588.2.2.1, .b bt588.2.2.2.1, .sl .u64 bt588.2.2.2.2.1, .i .i64 bt588.2.2.2.2.2.1], .s (.b bt588.2.2.2.2.2.2.1), .s (.i .i64 bt588.2.2.2.2.2.2.2)]), .r (.ag [.b bt601.1, .sl .u64 bt601.2.1, .i .i64 bt601.2.2]), .r (.ag [.b bt606.1, .sl .u64 bt606.2.1, .i .i64 bt606.2.2]), .r (.s (.b t611)), .br false, .br false, .br false, .br true, .br true, .br true, .cut 0 [1, 5, 6, 42] [0] [(0, 0), (0, 1), (0, 2), (0, 3), (0, 4), (0, 5)]] (fun _ => ai (gnomonlaw08_format.c A1) (ai (gnomonlaw08_pat.c A2) (ai (round_Cell.c A3) (ai (gnomonlaw08_num.c A4) (ai (gnomonlaw08_num.c A5) (ai (gnomonlaw08_spans.c A6) (ai (nt1 c7) (ai (nt1 c7) (ai (nt1 c7) (ai (nt0 (z0 c8)) (ai (nt0 (z0 c8)) (ai (nt0 (z0 c8)) ((gnomonlaw08_RoundMeets.jc k).1 _ _ _ _ h))))))))))))) (by kernel_rfl)
 ·exact pth Tryd.func5 [.r (.s (.i .i64 t586)), .r (.s (.i .u64 t587)), .r (.tu [.ag [.b bt588.1, .sl .u64 bt588.2.1, .i .i64 bt588.2.2.1, .b bt588.2.2.2.1, .sl .u64 bt588.2.2.2.2.1, .i .i64 bt588.2.2.2.2.2.1], .s (.b bt588.2.2.2.2.2.2.1), .s (.i .i64 bt588.2.2.2.2.2.2.2)]), .r (.ag [.b bt601.1, .sl .u64 bt601.2.1, .i .i64 bt601.2.2]), .r (.ag [.b bt606.1, .sl .u64 bt606.2.1, .i .i64 bt606.2.2]), .r (.s (.b t611)), .br true, .br true, .br true, .br true, .br true, .br true, .cut 0 [1, 5, 6, 42] [0] [(0, 0), (0, 1), (0, 2), (0, 3), (0, 4), (0, 5)]] (fun _ => ai (gnomonlaw08_format.c A1) (ai (gnomonlaw08_pat.c A2) (ai (round_Cell.c A3) (ai (gnomonlaw08_num.c A4) (ai (gnomonlaw08_num.c A5) (ai (gnomonlaw08_spans.c A6) (ai (nt0 (z0 c7)) (ai (nt0 (z0 c7)) (ai (nt0 (z0 c7)) (ai tt (ai tt (ai tt ((gnomonlaw08_RoundMeets.jc k).1 _ _ _ _ h))))))))))))) (by kernel_rfl)
end Go.Proofs.YtelfmddcjlocpaaDoor.PLib
