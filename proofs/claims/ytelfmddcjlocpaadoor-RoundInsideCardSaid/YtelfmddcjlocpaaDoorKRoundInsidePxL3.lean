/- Functions of the program as plain Lean functions (definitions as the print's), and that the machine's calls do what they do (contracts 'X.c', by Px). Condition: math/bits' table is laid. -/
import Derived.Test.YtelfmddcjlocpaaDoorKRoundInsidePxBr
import Derived.Test.YtelfmddcjlocpaaDoorKRoundInsidePRefx0
import Derived.Test.YtelfmddcjlocpaaDoorKRoundInsidePxRef
import Derived.Test.YtelfmddcjlocpaaDoorKRoundInsidePxL0
import Derived.Test.YtelfmddcjlocpaaDoorKRoundInsidePxL1
import Derived.Test.YtelfmddcjlocpaaDoorKRoundInsidePxL2
set_option linter.unusedVariables false
namespace Go.Proofs.YtelfmddcjlocpaaDoor.PLib
open Go Go.RowKit Go.Proofs.YtelfmddcjlocpaaDoorW.PrintWords Go.Proofs.YtelfmddcjlocpaaDoorW.PrintMore Go.Proofs.YtelfmddcjlocpaaDoor.Given Go.Proofs.YtelfmddcjlocpaaDoor.Px Go.Proofs.YtelfmddcjlocpaaDoor.PRef
mutual
def gnomonlaw08_RoundMeets.j0 : Nat → Int → Int → Bool → Option (Bool)
 | 0, _, _, _ => none
 | k + 1, x1, x5, x42 => if x42 = true then (some false) else ((binary_Next.f k x5 x1).bind fun bt612 => ((gnomonlaw08_finite.f x5 x1).bind fun bt614 => (if bt614.1 = true then (if bt614.2 = true then (gnomonlaw08_RoundMeets.j1 k x1 x5 bt612.1 true) else (gnomonlaw08_RoundMeets.j1 k x1 x5 bt612.1 (bt612.2 != 0))) else (gnomonlaw08_RoundMeets.j1 k x1 x5 bt612.1 true))))
def gnomonlaw08_RoundMeets.j1 : Nat → Int → Int → Int → Bool → Option (Bool)
 | 0, _, _, _, _ => none
 | k + 1, x1, x5, x9, x63 => if x63 = true then (some true) else ((round_Cell.f k x5 x1).bind fun bt616 => (if bt616.2.2.2.2.2.2.2 = 0 then ((gnomonlaw08_at.f k bt616.1 bt616.2.1 bt616.2.2.1 bt616.2.2.2.1 bt616.2.2.2.2.1 bt616.2.2.2.2.2.1).bind fun t628 => (gnomonlaw08_RoundMeets.j2 k x1 x5 x9 bt616.2.2.2.2.2.2.1 (t628 != (-1)) bt616.1 bt616.2.1 bt616.2.2.1 bt616.2.2.2.1 bt616.2.2.2.2.1 bt616.2.2.2.2.2.1)) else (gnomonlaw08_RoundMeets.j2 k x1 x5 x9 bt616.2.2.2.2.2.2.1 true bt616.1 bt616.2.1 bt616.2.2.1 bt616.2.2.2.1 bt616.2.2.2.2.1 bt616.2.2.2.2.2.1)))
def gnomonlaw08_RoundMeets.j2 : Nat → Int → Int → Int → Bool → Bool → Bool → List Int → Int → Bool → List Int → Int → Option (Bool)
 | 0, _, _, _, _, _, _, _, _, _, _, _ => none
 | k + 1, x1, x5, x9, x13, x80, x601000, x601001, x601002, x601003, x601004, x601005 => if x80 = true then (some false) else ((round_Nearest.f k x5 x601003 x601004 x601005).bind fun bt629 => (if bt629.2 = 0 then (if x13 = true then (if bt629.1 = x1 then (gnomonlaw08_RoundMeets.j3 k x5 x9 x13 false x601000 x601001 x601002 x601003 x601004 x601005) else (gnomonlaw08_RoundMeets.j3 k x5 x9 x13 true x601000 x601001 x601002 x601003 x601004 x601005)) else ((gnomonlaw08_rank.f k x5 bt629.1).bind fun t631 => ((gnomonlaw08_rank.f k x5 x1).bind fun t632 => (gnomonlaw08_RoundMeets.j3 k x5 x9 x13 (t631 != (wrap64 (t632 + 1))) x601000 x601001 x601002 x601003 x601004 x601005)))) else (gnomonlaw08_RoundMeets.j3 k x5 x9 x13 true x601000 x601001 x601002 x601003 x601004 x601005)))
def gnomonlaw08_RoundMeets.j3 : Nat → Int → Int → Bool → Bool → Bool → List Int → Int → Bool → List Int → Int → Option (Bool)
 | 0, _, _, _, _, _, _, _, _, _, _ => none
 | k + 1, x5, x9, x13, x111, x601000, x601001, x601002, x601003, x601004, x601005 => if x111 = true then (some false) else ((gnomonlaw08_finite.f x5 x9).bind fun bt633 => (if bt633.1 = true then (gnomonlaw08_RoundMeets.j4 k x5 x9 x13 bt633.2 x601000 x601001 x601002 x601003 x601004 x601005) else (gnomonlaw08_RoundMeets.j4 k x5 x9 x13 true x601000 x601001 x601002 x601003 x601004 x601005)))
def gnomonlaw08_RoundMeets.j4 : Nat → Int → Int → Bool → Bool → Bool → List Int → Int → Bool → List Int → Int → Option (Bool)
 | 0, _, _, _, _, _, _, _, _, _, _ => none
 | k + 1, x5, x9, x13, x122, x601000, x601001, x601002, x601003, x601004, x601005 => if x122 = true then (some true) else ((round_Cell.f k x5 x9).bind fun bt635 => (if bt635.2.2.2.2.2.2.2 = 0 then ((gnomonlaw08_at.f k x601003 x601004 x601005 bt635.1 bt635.2.1 bt635.2.2.1).bind fun t648 => (if t648 = 0 then (some (x13 != bt635.2.2.2.2.2.2.1)) else (some false))) else (some false)))
end
def gnomonlaw08_RoundMeets.f (k : Nat) (a0 : Bool) (a1 : Int) : Option (Bool) := (gnomonlaw08_format.f a0).bind fun t586 => ((gnomonlaw08_pat.f a0 a1).bind fun t587 => ((round_Cell.f k 64 2).bind fun bt588 => ((gnomonlaw08_num.f k 3 (-1075)).bind fun bt601 => ((gnomonlaw08_num.f k 5 (-1075)).bind fun bt606 => ((gnomonlaw08_spans.f k bt588.1 bt588.2.1 bt588.2.2.1 bt588.2.2.2.1 bt588.2.2.2.2.1 bt588.2.2.2.2.2.1 bt601.1 bt601.2.1 bt601.2.2 bt606.1 bt606.2.1 bt606.2.2).bind fun t611 => (if t611 = true then (if bt588.2.2.2.2.2.2.1 = true then (gnomonlaw08_RoundMeets.j0 k t587 t586 (bt588.2.2.2.2.2.2.2 != 0)) else (gnomonlaw08_RoundMeets.j0 k t587 t586 true)) else (gnomonlaw08_RoundMeets.j0 k t587 t586 true)))))))
def gnomonlaw08_awake.f (k : Nat)  : Option (Bool) := (gnomonlaw08_num.f k 9007199254740995 0).bind fun bt667 => ((round_Nearest.f k 64 bt667.1 bt667.2.1 bt667.2.2).bind fun bt672 => ((gnomonlaw08_num.f k (-1) 0).bind fun bt674 => ((round_Nearest.f k 32 bt674.1 bt674.2.1 bt674.2.2).bind fun bt679 => (if bt672.1 = 4845873199050653698 then (if bt672.2 = 0 then (if bt679.1 = 3212836864 then (some (bt679.2 == 0)) else (some false)) else (some false)) else (some false)))))
theorem gnomonlaw08_awake.mono : ∀ k, LeO (gnomonlaw08_awake.f k ) (gnomonlaw08_awake.f (k + 1) ) := by
 intro  k
 unfold gnomonlaw08_awake.f
 repeat' first
   | (with_reducible exact gnomonlaw08_num.mono _ _ _)
   | (with_reducible exact round_Nearest.mono _ _ _ _ _)
   | (with_reducible exact LeO.refl _)
   | (with_reducible exact LeO.none _)
   | (with_reducible refine LeO.ite ?_ ?_)
   | (with_reducible refine LeO.bind ?_ (fun _ => ?_))
   | exact gnomonlaw08_num.mono _ _ _
   | exact round_Nearest.mono _ _ _ _ _
   | exact LeO.none _
   | refine LeO.ite ?_ ?_
   | refine LeO.bind ?_ (fun _ => ?_)
theorem gnomonlaw08_awake.c {k : Nat} {r : Bool} (h : gnomonlaw08_awake.f k = some r) : Con Tryd.prog Gw 11 [] (· = .s (.b r)) := by
 unfold gnomonlaw08_awake.f at h
 obtain ⟨bt667, A1, h⟩ := bnd h
 obtain ⟨bt672, A2, h⟩ := bnd h
 obtain ⟨bt674, A3, h⟩ := bnd h
 obtain ⟨bt679, A4, h⟩ := bnd h
 rcases ite_e h with ⟨c5, h⟩ | ⟨c5, h⟩
 ·rcases ite_e h with ⟨c6, h⟩ | ⟨c6, h⟩
  ·rcases ite_e h with ⟨c7, h⟩ | ⟨c7, h⟩
   ·have h := si h; subst h
    exact pth Tryd.func11 [.r (.ag [.b bt667.1, .sl .u64 bt667.2.1, .i .i64 bt667.2.2]), .r (.tu [.s (.i .u64 bt672.1), .s (.i .i64 bt672.2)]), .r (.ag [.b bt674.1, .sl .u64 bt674.2.1, .i .i64 bt674.2.2]), .r (.tu [.s (.i .u64 bt679.1), .s (.i .i64 bt679.2)]), .br true, .br true, .br true, .br true, .br true, .br true, .br true, .br true, .br true] (fun e => ai (gnomonlaw08_num.c A1) (ai (round_Nearest.c A2) (ai (gnomonlaw08_num.c A3) (ai (round_Nearest.c A4) (ai (q1 c5) (ai (q1 c5) (ai (q1 c5) (ai (q1 c6) (ai (q1 c6) (ai (q1 c6) (ai (q1 c7) (ai (q1 c7) (ai (q1 c7) e))))))))))))) (by kernel_rfl)
   ·have h := si h; subst h
    exact pth Tryd.func11 [.r (.ag [.b bt667.1, .sl .u64 bt667.2.1, .i .i64 bt667.2.2]), .r (.tu [.s (.i .u64 bt672.1), .s (.i .i64 bt672.2)]), .r (.ag [.b bt674.1, .sl .u64 bt674.2.1, .i .i64 bt674.2.2]), .r (.tu [.s (.i .u64 bt679.1), .s (.i .i64 bt679.2)]), .br true, .br true, .br true, .br true, .br true, .br true, .br false, .br false, .br false] (fun e => ai (gnomonlaw08_num.c A1) (ai (round_Nearest.c A2) (ai (gnomonlaw08_num.c A3) (ai (round_Nearest.c A4) (ai (q1 c5) (ai (q1 c5) (ai (q1 c5) (ai (q1 c6) (ai (q1 c6) (ai (q1 c6) (ai (q0 c7) (ai (q0 c7) (ai (q0 c7) e))))))))))))) (by kernel_rfl)
  ·have h := si h; subst h
   exact pth Tryd.func11 [.r (.ag [.b bt667.1, .sl .u64 bt667.2.1, .i .i64 bt667.2.2]), .r (.tu [.s (.i .u64 bt672.1), .s (.i .i64 bt672.2)]), .r (.ag [.b bt674.1, .sl .u64 bt674.2.1, .i .i64 bt674.2.2]), .r (.tu [.s (.i .u64 bt679.1), .s (.i .i64 bt679.2)]), .br true, .br true, .br true, .br false, .br false, .br false, .br false, .br false, .br false] (fun e => ai (gnomonlaw08_num.c A1) (ai (round_Nearest.c A2) (ai (gnomonlaw08_num.c A3) (ai (round_Nearest.c A4) (ai (q1 c5) (ai (q1 c5) (ai (q1 c5) (ai (q0 c6) (ai (q0 c6) (ai (q0 c6) (ai ff (ai ff (ai ff e))))))))))))) (by kernel_rfl)
 ·have h := si h; subst h
  exact pth Tryd.func11 [.r (.ag [.b bt667.1, .sl .u64 bt667.2.1, .i .i64 bt667.2.2]), .r (.tu [.s (.i .u64 bt672.1), .s (.i .i64 bt672.2)]), .r (.ag [.b bt674.1, .sl .u64 bt674.2.1, .i .i64 bt674.2.2]), .r (.tu [.s (.i .u64 bt679.1), .s (.i .i64 bt679.2)]), .br false, .br false, .br false, .br false, .br false, .br false, .br false, .br false, .br false] (fun e => ai (gnomonlaw08_num.c A1) (ai (round_Nearest.c A2) (ai (gnomonlaw08_num.c A3) (ai (round_Nearest.c A4) (ai (q0 c5) (ai (q0 c5) (ai (q0 c5) (ai ff (ai ff (ai ff (ai ff (ai ff (ai ff e))))))))))))) (by kernel_rfl)
end Go.Proofs.YtelfmddcjlocpaaDoor.PLib
