/- Functions of the program as plain Lean functions (definitions as the print's), and that the machine's calls do what they do (contracts 'X.c', by Px). Condition: math/bits' table is laid. -/
import Derived.Test.YtelfmddcjlocpaaGreatDoorKRoundCellsPxL0
import Derived.Test.YtelfmddcjlocpaaGreatDoorKRoundCellsPxL1
import Derived.Test.YtelfmddcjlocpaaGreatDoorKRoundCellsPxL2
import Derived.Test.YtelfmddcjlocpaaGreatDoorKRoundCellsPxQ0
import Derived.Test.YtelfmddcjlocpaaGreatDoorKRoundCellsPxQ1
import Derived.Test.YtelfmddcjlocpaaGreatDoorKRoundCellsPxZ0
import Derived.Test.YtelfmddcjlocpaaGreatDoorKRoundCellsTwin
import Derived.Test.YtelfmddcjlocpaaGreatDoorKRoundCellsPxRfz
set_option linter.unusedVariables false
namespace Go.Proofs.YtelfmddcjlocpaaGreatDoor.PLib
open Go Go.RowKit Go.Proofs.YtelfmddcjlocpaaGreatDoorW.PrintWords Go.Proofs.YtelfmddcjlocpaaGreatDoorW.PrintMore Go.Proofs.YtelfmddcjlocpaaGreatDoor.Given Go.Proofs.YtelfmddcjlocpaaGreatDoor.Px Go.Proofs.YtelfmddcjlocpaaGreatDoor.PRef Go.Proofs.YtelfmddcjlocpaaGreatDoor.PRfz
def gnomonlaw08_plays.f (k : Nat) (a0_0 : Int) (a0_1 : Int) (a0_2 : Bool) (l0_3 : List Int) (a0_4 : Int) (a0_5 : Bool) (l0_6 : List Int) (a0_7 : Int) (a0_8 : Int) : Option (Bool) := (gnomonlaw08_twin.f a0_0 a0_1 a0_2 l0_3 a0_4 a0_5 l0_6 a0_7 a0_8).bind fun bt1 => (if a0_0 = 1 then ((round_Nearest.f k a0_1 bt1.2.2.1 bt1.2.2.2.1 bt1.2.2.2.2.1).bind fun bt2 => ((gnomonref08_DocNearest.f k a0_1 a0_2 l0_3 a0_4).bind fun bt3 => (if bt2.1 = bt3.1 then (some (bt2.2 == bt3.2)) else (some false)))) else (if a0_0 = 2 then ((round_Decide.f k a0_1 bt1.2.2.1 bt1.2.2.2.1 bt1.2.2.2.2.1 bt1.2.2.2.2.2.1 bt1.2.2.2.2.2.2.1 bt1.2.2.2.2.2.2.2.1).bind fun bt4 => ((gnomonref08_DocDecide.f k a0_1 a0_2 l0_3 a0_4 a0_5 l0_6 a0_7).bind fun bt5 => (if bt4.1 = bt5.1 then (if bt4.2.1 = true then (if bt5.2.1 = true then (some (bt4.2.2 == bt5.2.2)) else (some false)) else (if bt5.2.1 = true then (some false) else (some (bt4.2.2 == bt5.2.2)))) else (some false)))) else (if a0_0 = 3 then ((round_Cell.f k a0_1 a0_8).bind fun bt6 => ((gnomonref08_DocCell.f k a0_1 a0_8).bind fun bt7 => ((gnomonlaw08_spans.f k bt6.1 bt6.2.1 bt6.2.2.1 bt6.2.2.2.1 bt6.2.2.2.2.1 bt6.2.2.2.2.2.1 bt7.1 bt7.2.1 bt7.2.2.1 bt7.2.2.2.1 bt7.2.2.2.2.1 bt7.2.2.2.2.2.1).bind fun t8 => (if t8 = true then (if bt6.2.2.2.2.2.2.1 = true then (if bt7.2.2.2.2.2.2.1 = true then (some (bt6.2.2.2.2.2.2.2 == bt7.2.2.2.2.2.2.2)) else (some false)) else (if bt7.2.2.2.2.2.2.1 = true then (some false) else (some (bt6.2.2.2.2.2.2.2 == bt7.2.2.2.2.2.2.2)))) else (some false))))) else (if a0_0 = 4 then (none) else (if a0_0 = 5 then (none) else (if a0_0 = 6 then ((round_Narrow.f k a0_8).bind fun bt11 => ((gnomonref08_DocNarrow.f k a0_8).bind fun bt12 => (if bt11.1 = bt12.1 then (some (bt11.2 == bt12.2)) else (some false)))) else (some true)))))))
theorem gnomonlaw08_plays.mono : ∀ a0 a1 a2 a3 a4 a5 a6 a7 a8 k, LeO (gnomonlaw08_plays.f k a0 a1 a2 a3 a4 a5 a6 a7 a8) (gnomonlaw08_plays.f (k + 1) a0 a1 a2 a3 a4 a5 a6 a7 a8) := by
 intro a0 a1 a2 a3 a4 a5 a6 a7 a8 k
 unfold gnomonlaw08_plays.f
 repeat' first
  | (with_reducible exact gnomonlaw08_spans.mono _ _ _ _ _ _ _ _ _ _ _ _ _)
  | (with_reducible exact gnomonref08_DocCell.mono _ _ _)
  | (with_reducible exact gnomonref08_DocDecide.mono _ _ _ _ _ _ _ _)
  | (with_reducible exact gnomonref08_DocNarrow.mono _ _)
  | (with_reducible exact gnomonref08_DocNearest.mono _ _ _ _ _)
  | (with_reducible exact round_Cell.mono _ _ _)
  | (with_reducible exact round_Decide.mono _ _ _ _ _ _ _ _)
  | (with_reducible exact round_Narrow.mono _ _)
  | (with_reducible exact round_Nearest.mono _ _ _ _ _)
  | (with_reducible exact LeO.refl _)
  | (with_reducible exact LeO.none _)
  | (with_reducible refine LeO.ite ?_ ?_)
  | (with_reducible refine LeO.bind ?_ (fun _ => ?_))
theorem gnomonlaw08_plays.c {k : Nat} {a0_0 : Int} {a0_1 : Int} {a0_2 : Bool} {l0_3 : List Int} {a0_4 : Int} {a0_5 : Bool} {l0_6 : List Int} {a0_7 : Int} {a0_8 : Int} {r : Bool} (h : gnomonlaw08_plays.f k a0_0 a0_1 a0_2 l0_3 a0_4 a0_5 l0_6 a0_7 a0_8 = some r) : Con Tryz.prog Gw 65 [.ag [.i .i64 a0_0, .i .i64 a0_1, .b a0_2, .sl .u64 l0_3, .i .i64 a0_4, .b a0_5, .sl .u64 l0_6, .i .i64 a0_7, .i .u64 a0_8]] (· = .s (.b r)) := by
 unfold gnomonlaw08_plays.f at h
 obtain ⟨bt1, A1, h⟩ := bnd h
 rcases ite_e h with ⟨c2, h⟩ | ⟨c2, h⟩
 ·obtain ⟨bt2, A3, h⟩ := bnd h
  obtain ⟨bt3, A4, h⟩ := bnd h
  rcases ite_e h with ⟨c5, h⟩ | ⟨c5, h⟩
  ·have h := si h; subst h
   exact pth Tryz.func65 [.r (.ag [.i .i64 bt1.1, .i .i64 bt1.2.1, .b bt1.2.2.1, .sl .u64 bt1.2.2.2.1, .i .i64 bt1.2.2.2.2.1, .b bt1.2.2.2.2.2.1, .sl .u64 bt1.2.2.2.2.2.2.1, .i .i64 bt1.2.2.2.2.2.2.2.1, .i .u64 bt1.2.2.2.2.2.2.2.2]), .br true, .r (.tu [.s (.i .u64 bt2.1), .s (.i .i64 bt2.2)]), .r (.tu [.s (.i .u64 bt3.1), .s (.i .i64 bt3.2)]), .br true, .br true, .br true, .br true] (fun e => ai (gnomonlaw08_twin.c A1) (ai (q1 c2) (ai (round_Nearest.c A3) (ai (gnomonref08_DocNearest.c A4) (ai (q1 c5) (ai (q1 c5) (ai (q1 c5) (ai (q1 c5) e)))))))) (by kernel_rfl)
  ·have h := si h; subst h
   exact pth Tryz.func65 [.r (.ag [.i .i64 bt1.1, .i .i64 bt1.2.1, .b bt1.2.2.1, .sl .u64 bt1.2.2.2.1, .i .i64 bt1.2.2.2.2.1, .b bt1.2.2.2.2.2.1, .sl .u64 bt1.2.2.2.2.2.2.1, .i .i64 bt1.2.2.2.2.2.2.2.1, .i .u64 bt1.2.2.2.2.2.2.2.2]), .br true, .r (.tu [.s (.i .u64 bt2.1), .s (.i .i64 bt2.2)]), .r (.tu [.s (.i .u64 bt3.1), .s (.i .i64 bt3.2)]), .br false, .br false, .br false, .br false] (fun e => ai (gnomonlaw08_twin.c A1) (ai (q1 c2) (ai (round_Nearest.c A3) (ai (gnomonref08_DocNearest.c A4) (ai (q0 c5) (ai (q0 c5) (ai (q0 c5) (ai (q0 c5) e)))))))) (by kernel_rfl)
 ·rcases ite_e h with ⟨c6, h⟩ | ⟨c6, h⟩
  ·obtain ⟨bt4, A7, h⟩ := bnd h
   obtain ⟨bt5, A8, h⟩ := bnd h
   rcases ite_e h with ⟨c9, h⟩ | ⟨c9, h⟩
   ·rcases ite_e h with ⟨c10, h⟩ | ⟨c10, h⟩
    ·rcases ite_e h with ⟨c11, h⟩ | ⟨c11, h⟩
     ·have h := si h; subst h
      exact pth Tryz.func65 [.r (.ag [.i .i64 bt1.1, .i .i64 bt1.2.1, .b bt1.2.2.1, .sl .u64 bt1.2.2.2.1, .i .i64 bt1.2.2.2.2.1, .b bt1.2.2.2.2.2.1, .sl .u64 bt1.2.2.2.2.2.2.1, .i .i64 bt1.2.2.2.2.2.2.2.1, .i .u64 bt1.2.2.2.2.2.2.2.2]), .br false, .br true, .r (.tu [.s (.i .u64 bt4.1), .s (.b bt4.2.1), .s (.i .i64 bt4.2.2)]), .r (.tu [.s (.i .u64 bt5.1), .s (.b bt5.2.1), .s (.i .i64 bt5.2.2)]), .br true, .br true, .br true, .br true, .br true, .br true, .br true, .br true] (fun e => ai (gnomonlaw08_twin.c A1) (ai (q0 c2) (ai (q1 c6) (ai (round_Decide.c A7) (ai (gnomonref08_DocDecide.c A8) (ai (q1 c9) (ai (q1 c9) (ai (q1 c9) (ai (q1 c9) (ai (beq2 c10 c11) (ai (beq2 c10 c11) (ai (beq2 c10 c11) (ai (beq2 c10 c11) e))))))))))))) (by kernel_rfl)
     ·have h := si h; subst h
      exact pth Tryz.func65 [.r (.ag [.i .i64 bt1.1, .i .i64 bt1.2.1, .b bt1.2.2.1, .sl .u64 bt1.2.2.2.1, .i .i64 bt1.2.2.2.2.1, .b bt1.2.2.2.2.2.1, .sl .u64 bt1.2.2.2.2.2.2.1, .i .i64 bt1.2.2.2.2.2.2.2.1, .i .u64 bt1.2.2.2.2.2.2.2.2]), .br false, .br true, .r (.tu [.s (.i .u64 bt4.1), .s (.b bt4.2.1), .s (.i .i64 bt4.2.2)]), .r (.tu [.s (.i .u64 bt5.1), .s (.b bt5.2.1), .s (.i .i64 bt5.2.2)]), .br true, .br true, .br true, .br true, .br false, .br false, .br false, .br false] (fun e => ai (gnomonlaw08_twin.c A1) (ai (q0 c2) (ai (q1 c6) (ai (round_Decide.c A7) (ai (gnomonref08_DocDecide.c A8) (ai (q1 c9) (ai (q1 c9) (ai (q1 c9) (ai (q1 c9) (ai (beq2 c10 (z0 c11)) (ai (beq2 c10 (z0 c11)) (ai (beq2 c10 (z0 c11)) (ai (beq2 c10 (z0 c11)) e))))))))))))) (by kernel_rfl)
    ·rcases ite_e h with ⟨c12, h⟩ | ⟨c12, h⟩
     ·have h := si h; subst h
      exact pth Tryz.func65 [.r (.ag [.i .i64 bt1.1, .i .i64 bt1.2.1, .b bt1.2.2.1, .sl .u64 bt1.2.2.2.1, .i .i64 bt1.2.2.2.2.1, .b bt1.2.2.2.2.2.1, .sl .u64 bt1.2.2.2.2.2.2.1, .i .i64 bt1.2.2.2.2.2.2.2.1, .i .u64 bt1.2.2.2.2.2.2.2.2]), .br false, .br true, .r (.tu [.s (.i .u64 bt4.1), .s (.b bt4.2.1), .s (.i .i64 bt4.2.2)]), .r (.tu [.s (.i .u64 bt5.1), .s (.b bt5.2.1), .s (.i .i64 bt5.2.2)]), .br true, .br true, .br true, .br true, .br false, .br false, .br false, .br false] (fun e => ai (gnomonlaw08_twin.c A1) (ai (q0 c2) (ai (q1 c6) (ai (round_Decide.c A7) (ai (gnomonref08_DocDecide.c A8) (ai (q1 c9) (ai (q1 c9) (ai (q1 c9) (ai (q1 c9) (ai (beq2 (z0 c10) c12) (ai (beq2 (z0 c10) c12) (ai (beq2 (z0 c10) c12) (ai (beq2 (z0 c10) c12) e))))))))))))) (by kernel_rfl)
     ·have h := si h; subst h
      exact pth Tryz.func65 [.r (.ag [.i .i64 bt1.1, .i .i64 bt1.2.1, .b bt1.2.2.1, .sl .u64 bt1.2.2.2.1, .i .i64 bt1.2.2.2.2.1, .b bt1.2.2.2.2.2.1, .sl .u64 bt1.2.2.2.2.2.2.1, .i .i64 bt1.2.2.2.2.2.2.2.1, .i .u64 bt1.2.2.2.2.2.2.2.2]), .br false, .br true, .r (.tu [.s (.i .u64 bt4.1), .s (.b bt4.2.1), .s (.i .i64 bt4.2.2)]), .r (.tu [.s (.i .u64 bt5.1), .s (.b bt5.2.1), .s (.i .i64 bt5.2.2)]), .br true, .br true, .br true, .br true, .br true, .br true, .br true, .br true] (fun e => ai (gnomonlaw08_twin.c A1) (ai (q0 c2) (ai (q1 c6) (ai (round_Decide.c A7) (ai (gnomonref08_DocDecide.c A8) (ai (q1 c9) (ai (q1 c9) (ai (q1 c9) (ai (q1 c9) (ai (beq2 (z0 c10) (z0 c12)) (ai (beq2 (z0 c10) (z0 c12)) (ai (beq2 (z0 c10) (z0 c12)) (ai (beq2 (z0 c10) (z0 c12)) e))))))))))))) (by kernel_rfl)
   ·have h := si h; subst h
    exact pth Tryz.func65 [.r (.ag [.i .i64 bt1.1, .i .i64 bt1.2.1, .b bt1.2.2.1, .sl .u64 bt1.2.2.2.1, .i .i64 bt1.2.2.2.2.1, .b bt1.2.2.2.2.2.1, .sl .u64 bt1.2.2.2.2.2.2.1, .i .i64 bt1.2.2.2.2.2.2.2.1, .i .u64 bt1.2.2.2.2.2.2.2.2]), .br false, .br true, .r (.tu [.s (.i .u64 bt4.1), .s (.b bt4.2.1), .s (.i .i64 bt4.2.2)]), .r (.tu [.s (.i .u64 bt5.1), .s (.b bt5.2.1), .s (.i .i64 bt5.2.2)]), .br false, .br false, .br false, .br false, .br false, .br false, .br false, .br false] (fun e => ai (gnomonlaw08_twin.c A1) (ai (q0 c2) (ai (q1 c6) (ai (round_Decide.c A7) (ai (gnomonref08_DocDecide.c A8) (ai (q0 c9) (ai (q0 c9) (ai (q0 c9) (ai (q0 c9) (ai ff (ai ff (ai ff (ai ff e))))))))))))) (by kernel_rfl)
  ·rcases ite_e h with ⟨c13, h⟩ | ⟨c13, h⟩
   ·obtain ⟨bt6, A14, h⟩ := bnd h
    obtain ⟨bt7, A15, h⟩ := bnd h
    obtain ⟨t8, A16, h⟩ := bnd h
    rcases ite_e h with ⟨c17, h⟩ | ⟨c17, h⟩
    ·rcases ite_e h with ⟨c18, h⟩ | ⟨c18, h⟩
     ·rcases ite_e h with ⟨c19, h⟩ | ⟨c19, h⟩
      ·have h := si h; subst h
       exact pth Tryz.func65 [.r (.ag [.i .i64 bt1.1, .i .i64 bt1.2.1, .b bt1.2.2.1, .sl .u64 bt1.2.2.2.1, .i .i64 bt1.2.2.2.2.1, .b bt1.2.2.2.2.2.1, .sl .u64 bt1.2.2.2.2.2.2.1, .i .i64 bt1.2.2.2.2.2.2.2.1, .i .u64 bt1.2.2.2.2.2.2.2.2]), .br false, .br false, .br true, .r (.tu [.ag [.b bt6.1, .sl .u64 bt6.2.1, .i .i64 bt6.2.2.1, .b bt6.2.2.2.1, .sl .u64 bt6.2.2.2.2.1, .i .i64 bt6.2.2.2.2.2.1], .s (.b bt6.2.2.2.2.2.2.1), .s (.i .i64 bt6.2.2.2.2.2.2.2)]), .r (.tu [.ag [.b bt7.1, .sl .u64 bt7.2.1, .i .i64 bt7.2.2.1, .b bt7.2.2.2.1, .sl .u64 bt7.2.2.2.2.1, .i .i64 bt7.2.2.2.2.2.1], .s (.b bt7.2.2.2.2.2.2.1), .s (.i .i64 bt7.2.2.2.2.2.2.2)]), .r (.s (.b t8)), .br true, .br true, .br true, .br true, .br true, .br true, .br true, .br true] (fun e => ai (gnomonlaw08_twin.c A1) (ai (q0 c2) (ai (q0 c6) (ai (q1 c13) (ai (round_Cell.c A14) (ai (gnomonref08_DocCell.c A15) (ai (gnomonlaw08_spans.c A16) (ai c17 (ai c17 (ai c17 (ai c17 (ai (beq2 c18 c19) (ai (beq2 c18 c19) (ai (beq2 c18 c19) (ai (beq2 c18 c19) e))))))))))))))) (by kernel_rfl)
      ·have h := si h; subst h
       exact pth Tryz.func65 [.r (.ag [.i .i64 bt1.1, .i .i64 bt1.2.1, .b bt1.2.2.1, .sl .u64 bt1.2.2.2.1, .i .i64 bt1.2.2.2.2.1, .b bt1.2.2.2.2.2.1, .sl .u64 bt1.2.2.2.2.2.2.1, .i .i64 bt1.2.2.2.2.2.2.2.1, .i .u64 bt1.2.2.2.2.2.2.2.2]), .br false, .br false, .br true, .r (.tu [.ag [.b bt6.1, .sl .u64 bt6.2.1, .i .i64 bt6.2.2.1, .b bt6.2.2.2.1, .sl .u64 bt6.2.2.2.2.1, .i .i64 bt6.2.2.2.2.2.1], .s (.b bt6.2.2.2.2.2.2.1), .s (.i .i64 bt6.2.2.2.2.2.2.2)]), .r (.tu [.ag [.b bt7.1, .sl .u64 bt7.2.1, .i .i64 bt7.2.2.1, .b bt7.2.2.2.1, .sl .u64 bt7.2.2.2.2.1, .i .i64 bt7.2.2.2.2.2.1], .s (.b bt7.2.2.2.2.2.2.1), .s (.i .i64 bt7.2.2.2.2.2.2.2)]), .r (.s (.b t8)), .br true, .br true, .br true, .br true, .br false, .br false, .br false, .br false] (fun e => ai (gnomonlaw08_twin.c A1) (ai (q0 c2) (ai (q0 c6) (ai (q1 c13) (ai (round_Cell.c A14) (ai (gnomonref08_DocCell.c A15) (ai (gnomonlaw08_spans.c A16) (ai c17 (ai c17 (ai c17 (ai c17 (ai (beq2 c18 (z0 c19)) (ai (beq2 c18 (z0 c19)) (ai (beq2 c18 (z0 c19)) (ai (beq2 c18 (z0 c19)) e))))))))))))))) (by kernel_rfl)
     ·rcases ite_e h with ⟨c20, h⟩ | ⟨c20, h⟩
      ·have h := si h; subst h
       exact pth Tryz.func65 [.r (.ag [.i .i64 bt1.1, .i .i64 bt1.2.1, .b bt1.2.2.1, .sl .u64 bt1.2.2.2.1, .i .i64 bt1.2.2.2.2.1, .b bt1.2.2.2.2.2.1, .sl .u64 bt1.2.2.2.2.2.2.1, .i .i64 bt1.2.2.2.2.2.2.2.1, .i .u64 bt1.2.2.2.2.2.2.2.2]), .br false, .br false, .br true, .r (.tu [.ag [.b bt6.1, .sl .u64 bt6.2.1, .i .i64 bt6.2.2.1, .b bt6.2.2.2.1, .sl .u64 bt6.2.2.2.2.1, .i .i64 bt6.2.2.2.2.2.1], .s (.b bt6.2.2.2.2.2.2.1), .s (.i .i64 bt6.2.2.2.2.2.2.2)]), .r (.tu [.ag [.b bt7.1, .sl .u64 bt7.2.1, .i .i64 bt7.2.2.1, .b bt7.2.2.2.1, .sl .u64 bt7.2.2.2.2.1, .i .i64 bt7.2.2.2.2.2.1], .s (.b bt7.2.2.2.2.2.2.1), .s (.i .i64 bt7.2.2.2.2.2.2.2)]), .r (.s (.b t8)), .br true, .br true, .br true, .br true, .br false, .br false, .br false, .br false] (fun e => ai (gnomonlaw08_twin.c A1) (ai (q0 c2) (ai (q0 c6) (ai (q1 c13) (ai (round_Cell.c A14) (ai (gnomonref08_DocCell.c A15) (ai (gnomonlaw08_spans.c A16) (ai c17 (ai c17 (ai c17 (ai c17 (ai (beq2 (z0 c18) c20) (ai (beq2 (z0 c18) c20) (ai (beq2 (z0 c18) c20) (ai (beq2 (z0 c18) c20) e))))))))))))))) (by kernel_rfl)
      ·have h := si h; subst h
       exact pth Tryz.func65 [.r (.ag [.i .i64 bt1.1, .i .i64 bt1.2.1, .b bt1.2.2.1, .sl .u64 bt1.2.2.2.1, .i .i64 bt1.2.2.2.2.1, .b bt1.2.2.2.2.2.1, .sl .u64 bt1.2.2.2.2.2.2.1, .i .i64 bt1.2.2.2.2.2.2.2.1, .i .u64 bt1.2.2.2.2.2.2.2.2]), .br false, .br false, .br true, .r (.tu [.ag [.b bt6.1, .sl .u64 bt6.2.1, .i .i64 bt6.2.2.1, .b bt6.2.2.2.1, .sl .u64 bt6.2.2.2.2.1, .i .i64 bt6.2.2.2.2.2.1], .s (.b bt6.2.2.2.2.2.2.1), .s (.i .i64 bt6.2.2.2.2.2.2.2)]), .r (.tu [.ag [.b bt7.1, .sl .u64 bt7.2.1, .i .i64 bt7.2.2.1, .b bt7.2.2.2.1, .sl .u64 bt7.2.2.2.2.1, .i .i64 bt7.2.2.2.2.2.1], .s (.b bt7.2.2.2.2.2.2.1), .s (.i .i64 bt7.2.2.2.2.2.2.2)]), .r (.s (.b t8)), .br true, .br true, .br true, .br true, .br true, .br true, .br true, .br true] (fun e => ai (gnomonlaw08_twin.c A1) (ai (q0 c2) (ai (q0 c6) (ai (q1 c13) (ai (round_Cell.c A14) (ai (gnomonref08_DocCell.c A15) (ai (gnomonlaw08_spans.c A16) (ai c17 (ai c17 (ai c17 (ai c17 (ai (beq2 (z0 c18) (z0 c20)) (ai (beq2 (z0 c18) (z0 c20)) (ai (beq2 (z0 c18) (z0 c20)) (ai (beq2 (z0 c18) (z0 c20)) e))))))))))))))) (by kernel_rfl)
    ·have h := si h; subst h
     exact pth Tryz.func65 [.r (.ag [.i .i64 bt1.1, .i .i64 bt1.2.1, .b bt1.2.2.1, .sl .u64 bt1.2.2.2.1, .i .i64 bt1.2.2.2.2.1, .b bt1.2.2.2.2.2.1, .sl .u64 bt1.2.2.2.2.2.2.1, .i .i64 bt1.2.2.2.2.2.2.2.1, .i .u64 bt1.2.2.2.2.2.2.2.2]), .br false, .br false, .br true, .r (.tu [.ag [.b bt6.1, .sl .u64 bt6.2.1, .i .i64 bt6.2.2.1, .b bt6.2.2.2.1, .sl .u64 bt6.2.2.2.2.1, .i .i64 bt6.2.2.2.2.2.1], .s (.b bt6.2.2.2.2.2.2.1), .s (.i .i64 bt6.2.2.2.2.2.2.2)]), .r (.tu [.ag [.b bt7.1, .sl .u64 bt7.2.1, .i .i64 bt7.2.2.1, .b bt7.2.2.2.1, .sl .u64 bt7.2.2.2.2.1, .i .i64 bt7.2.2.2.2.2.1], .s (.b bt7.2.2.2.2.2.2.1), .s (.i .i64 bt7.2.2.2.2.2.2.2)]), .r (.s (.b t8)), .br false, .br false, .br false, .br false, .br false, .br false, .br false, .br false] (fun e => ai (gnomonlaw08_twin.c A1) (ai (q0 c2) (ai (q0 c6) (ai (q1 c13) (ai (round_Cell.c A14) (ai (gnomonref08_DocCell.c A15) (ai (gnomonlaw08_spans.c A16) (ai (z0 c17) (ai (z0 c17) (ai (z0 c17) (ai (z0 c17) (ai ff (ai ff (ai ff (ai ff e))))))))))))))) (by kernel_rfl)
   ·rcases ite_e h with ⟨c21, h⟩ | ⟨c21, h⟩
    ·cases h
    ·rcases ite_e h with ⟨c22, h⟩ | ⟨c22, h⟩
     ·cases h
     ·rcases ite_e h with ⟨c23, h⟩ | ⟨c23, h⟩
      ·obtain ⟨bt11, A24, h⟩ := bnd h
       obtain ⟨bt12, A25, h⟩ := bnd h
       rcases ite_e h with ⟨c26, h⟩ | ⟨c26, h⟩
       ·have h := si h; subst h
        exact pth Tryz.func65 [.r (.ag [.i .i64 bt1.1, .i .i64 bt1.2.1, .b bt1.2.2.1, .sl .u64 bt1.2.2.2.1, .i .i64 bt1.2.2.2.2.1, .b bt1.2.2.2.2.2.1, .sl .u64 bt1.2.2.2.2.2.2.1, .i .i64 bt1.2.2.2.2.2.2.2.1, .i .u64 bt1.2.2.2.2.2.2.2.2]), .br false, .br false, .br false, .br false, .br false, .br true, .r (.tu [.s (.i .u64 bt11.1), .s (.i .i64 bt11.2)]), .r (.tu [.s (.i .u64 bt12.1), .s (.i .i64 bt12.2)]), .br true, .br true, .br true, .br true] (fun e => ai (gnomonlaw08_twin.c A1) (ai (q0 c2) (ai (q0 c6) (ai (q0 c13) (ai (q0 c21) (ai (q0 c22) (ai (q1 c23) (ai (round_Narrow.c A24) (ai (gnomonref08_DocNarrow.c A25) (ai (q1 c26) (ai (q1 c26) (ai (q1 c26) (ai (q1 c26) e))))))))))))) (by kernel_rfl)
       ·have h := si h; subst h
        exact pth Tryz.func65 [.r (.ag [.i .i64 bt1.1, .i .i64 bt1.2.1, .b bt1.2.2.1, .sl .u64 bt1.2.2.2.1, .i .i64 bt1.2.2.2.2.1, .b bt1.2.2.2.2.2.1, .sl .u64 bt1.2.2.2.2.2.2.1, .i .i64 bt1.2.2.2.2.2.2.2.1, .i .u64 bt1.2.2.2.2.2.2.2.2]), .br false, .br false, .br false, .br false, .br false, .br true, .r (.tu [.s (.i .u64 bt11.1), .s (.i .i64 bt11.2)]), .r (.tu [.s (.i .u64 bt12.1), .s (.i .i64 bt12.2)]), .br false, .br false, .br false, .br false] (fun e => ai (gnomonlaw08_twin.c A1) (ai (q0 c2) (ai (q0 c6) (ai (q0 c13) (ai (q0 c21) (ai (q0 c22) (ai (q1 c23) (ai (round_Narrow.c A24) (ai (gnomonref08_DocNarrow.c A25) (ai (q0 c26) (ai (q0 c26) (ai (q0 c26) (ai (q0 c26) e))))))))))))) (by kernel_rfl)
      ·have h := si h; subst h
       exact pth Tryz.func65 [.r (.ag [.i .i64 bt1.1, .i .i64 bt1.2.1, .b bt1.2.2.1, .sl .u64 bt1.2.2.2.1, .i .i64 bt1.2.2.2.2.1, .b bt1.2.2.2.2.2.1, .sl .u64 bt1.2.2.2.2.2.2.1, .i .i64 bt1.2.2.2.2.2.2.2.1, .i .u64 bt1.2.2.2.2.2.2.2.2]), .br false, .br false, .br false, .br false, .br false, .br false] (fun e => ai (gnomonlaw08_twin.c A1) (ai (q0 c2) (ai (q0 c6) (ai (q0 c13) (ai (q0 c21) (ai (q0 c22) (ai (q0 c23) e))))))) (by kernel_rfl)
end Go.Proofs.YtelfmddcjlocpaaGreatDoor.PLib
