/- Functions of the program as plain Lean functions (definitions as the print's), and that the machine's calls do what they do (contracts 'X.c', by Px). Condition: math/bits' table is laid.  -/
import Derived.Test.YtelfmddcjlocpaaGreatDoorKRoundQuotientsRnRow
import Derived.Test.YtelfmddcjlocpaaGreatDoorKRoundQuotientsPxTz
import Derived.Test.YtelfmddcjlocpaaGreatDoorKRoundQuotientsPxL0
import Derived.Test.YtelfmddcjlocpaaGreatDoorKRoundQuotientsPxL1
import Derived.Test.YtelfmddcjlocpaaGreatDoorProg
import Derived.Below
import Derived.Deep.Draws
import Derived.Deep.AppendLies
import Derived.Maps.AppendAt
import Derived.OwnWalk
import Derived.Laws.BytesArg
import Derived.Laws.MakeOwn
import Derived.Laws.OwnMore
import Derived.Deep.OwnRows
import Derived.Tactics
import Derived.Lib.ConvBytes
import Derived.Laws.Slices
import Derived.WalkKit
import Derived.KernelRfl
import Derived.RowKit3
import Derived.Deep.LoopGhost
import Derived.Deep.QuietTactic
import Derived.BigQuiet
import Derived.WideLaws
import Derived.Deep.DeepCutAuto
import Derived.Deep.CutBlock
import Derived.Deep.RegionHeld3
import Derived.Laws.Rows
import Derived.Lib.AppendStr
import Derived.ArgAppend
import Derived.Laws.IdiomCopy
import Derived.OrdersHeld
import Derived.Laws.BitsLemmas
import Derived.RowKit
import Derived.Test.YtelfmddcjlocpaaGreatDoorKRoundQuotientsWWords
import Derived.Test.YtelfmddcjlocpaaGreatDoorKRoundQuotientsWLast
import Derived.Test.YtelfmddcjlocpaaGreatDoorKRoundQuotientsPLenx0
import Derived.Test.YtelfmddcjlocpaaGreatDoorKRoundQuotientsBl
import Derived.Laws.StructEq
section
set_option linter.unusedVariables false
namespace Go.Proofs.YtelfmddcjlocpaaGreatDoor.PLib
open Go Go.RowKit Go.Proofs.YtelfmddcjlocpaaGreatDoorW.PrintWords Go.Proofs.YtelfmddcjlocpaaGreatDoorW.PrintMore Go.Proofs.YtelfmddcjlocpaaGreatDoor.Given Go.Proofs.YtelfmddcjlocpaaGreatDoor.Px
def round_Cell.j0 : Nat → Int → Int → Bool → Option (Bool × List Int × Int × Bool × List Int × Int × Bool × Int)
 | 0, _, _, _ => none
 | k + 1, x0, x1, x25 => if x25 = true then (some (false, ([] : List Int), 0, false, ([] : List Int), 0, false, 6)) else ((binary_Mid.f k x0 x1).bind fun bt532 => ((binary_Mid.f k x0 (IntKind.u64.wrap (x1 - 1))).bind fun bt539 => (if bt532.1 = true then (some (bt532.1, bt532.2.1, bt532.2.2.1, bt539.1, bt539.2.1, bt539.2.2.1, ((Go.bits .and .u64 x1 1) == 0), 0)) else (some (bt539.1, bt539.2.1, bt539.2.2.1, bt532.1, bt532.2.1, bt532.2.2.1, ((Go.bits .and .u64 x1 1) == 0), 0)))))
def round_Cell.f (k : Nat) (a0 : Int) (a1 : Int) : Option (Bool × List Int × Int × Bool × List Int × Int × Bool × Int) := (binary_ClassOf.f k a0 a1).bind fun bt530 => (if bt530.2 = 0 then (if bt530.1 = 0 then (round_Cell.j0 k a0 a1 (bt530.1 == 0)) else (if bt530.1 = 3 then (round_Cell.j0 k a0 a1 (bt530.1 == 3)) else (round_Cell.j0 k a0 a1 (bt530.1 == 4)))) else (some (false, ([] : List Int), 0, false, ([] : List Int), 0, false, bt530.2)))
theorem round_Cell.mono_l : ∀ k, (∀ y0 y1 y2, LeO (round_Cell.j0 k y0 y1 y2) (round_Cell.j0 (k + 1) y0 y1 y2))
 | 0 => fun _ _ _ r h => by simp [round_Cell.j0] at h
 | k + 1 => by
  have ih0 := round_Cell.mono_l k
  ·intro y0 y1 y2
   unfold round_Cell.j0
   repeat' first
   | (with_reducible exact ih0 _ _ _)
   | (with_reducible exact binary_ClassOf.mono _ _ _)
   | (with_reducible exact binary_Mid.mono _ _ _)
   | (with_reducible exact LeO.refl _)
   | (with_reducible exact LeO.none _)
   | (with_reducible refine LeO.ite ?_ ?_)
   | (with_reducible refine LeO.bind ?_ (fun _ => ?_))
   | exact ih0 _ _ _
   | exact binary_ClassOf.mono _ _ _
   | exact binary_Mid.mono _ _ _
   | exact LeO.none _
   | refine LeO.ite ?_ ?_
   | refine LeO.bind ?_ (fun _ => ?_)
theorem round_Cell.mono : ∀ a0 a1 k, LeO (round_Cell.f k a0 a1) (round_Cell.f (k + 1) a0 a1) := by
 intro a0 a1 k
 have ih0 := round_Cell.mono_l k
 unfold round_Cell.f
 repeat' first
   | (with_reducible exact ih0 _ _ _)
   | (with_reducible exact binary_ClassOf.mono _ _ _)
   | (with_reducible exact binary_Mid.mono _ _ _)
   | (with_reducible exact LeO.refl _)
   | (with_reducible exact LeO.none _)
   | (with_reducible refine LeO.ite ?_ ?_)
   | (with_reducible refine LeO.bind ?_ (fun _ => ?_))
   | exact ih0 _ _ _
   | exact binary_ClassOf.mono _ _ _
   | exact binary_Mid.mono _ _ _
   | exact LeO.none _
   | refine LeO.ite ?_ ?_
   | refine LeO.bind ?_ (fun _ => ?_)
theorem round_Cell.jc : ∀ k : Nat, (∀ (x0 : Int) (x1 : Int) (x25 : Bool) (r : Bool × List Int × Int × Bool × List Int × Int × Bool × Int), round_Cell.j0 k x0 x1 x25 = some r → Fin Tryz.prog Gw 25 (nav (bodyOf Tryz.f25) [1, 1, 1, 0, 1, 0, 1] []) ⟨mkT 57 [(0, .s (.i .i64 x0)), (1, .s (.i .u64 x1)), (4, .s (.lo 0 0)), (25, .s (.b x25))], [some (47, [.b false, .sl .u64 ([]), .i .i64 0, .b false, .sl .u64 ([]), .i .i64 0])]⟩ (· = .tu [.ag [.b r.1, .sl .u64 r.2.1, .i .i64 r.2.2.1, .b r.2.2.2.1, .sl .u64 r.2.2.2.2.1, .i .i64 r.2.2.2.2.2.1], .s (.b r.2.2.2.2.2.2.1), .s (.i .i64 r.2.2.2.2.2.2.2)]))
 | 0 => (fun _ _ _ _ h => nn h)
 | k + 1 => by
  have ih := round_Cell.jc k
  ·intro x0 x1 x25 r h
   rw [round_Cell.j0] at h
   rcases ite_e h with ⟨c1, h⟩ | ⟨c1, h⟩
   ·have h := si h; subst h
    exact jth Tryz.func25 [.br true] (fun e => ai c1 e) (by kernel_rfl)
   ·obtain ⟨bt532, A2, h⟩ := bnd h
    obtain ⟨bt539, A3, h⟩ := bnd h
    rcases ite_e h with ⟨c4, h⟩ | ⟨c4, h⟩
    ·have h := si h; subst h
     exact jth Tryz.func25 [.br false, .r (.tu [.ag [.b bt532.1, .sl .u64 bt532.2.1, .i .i64 bt532.2.2.1], .s (.i .i64 bt532.2.2.2)]), .r (.tu [.ag [.b bt539.1, .sl .u64 bt539.2.1, .i .i64 bt539.2.2.1], .s (.i .i64 bt539.2.2.2)]), .br true] (fun e => ai (z0 c1) (ai (binary_Mid.c A2) (ai (binary_Mid.c A3) (ai c4 e)))) (by kernel_rfl)
    ·have h := si h; subst h
     exact jth Tryz.func25 [.br false, .r (.tu [.ag [.b bt532.1, .sl .u64 bt532.2.1, .i .i64 bt532.2.2.1], .s (.i .i64 bt532.2.2.2)]), .r (.tu [.ag [.b bt539.1, .sl .u64 bt539.2.1, .i .i64 bt539.2.2.1], .s (.i .i64 bt539.2.2.2)]), .br false] (fun e => ai (z0 c1) (ai (binary_Mid.c A2) (ai (binary_Mid.c A3) (ai (z0 c4) e)))) (by kernel_rfl)
theorem round_Cell.c {k : Nat} {a0 : Int} {a1 : Int} {r : Bool × List Int × Int × Bool × List Int × Int × Bool × Int} (h : round_Cell.f k a0 a1 = some r) : Con Tryz.prog Gw 25 [.s (.i .i64 a0), .s (.i .u64 a1)] (· = .tu [.ag [.b r.1, .sl .u64 r.2.1, .i .i64 r.2.2.1, .b r.2.2.2.1, .sl .u64 r.2.2.2.2.1, .i .i64 r.2.2.2.2.2.1], .s (.b r.2.2.2.2.2.2.1), .s (.i .i64 r.2.2.2.2.2.2.2)]) := by
 unfold round_Cell.f at h
 obtain ⟨bt530, A1, h⟩ := bnd h
 rcases ite_e h with ⟨c2, h⟩ | ⟨c2, h⟩
 ·rcases ite_e h with ⟨c3, h⟩ | ⟨c3, h⟩
  ·exact pth Tryz.func25 [.r (.tu [.s (.i .i64 bt530.1), .s (.i .i64 bt530.2)]), .br false, .br true, .cut 0 [0, 1, 4, 25] [0] []] (fun _ => ai (binary_ClassOf.c A1) (ai (n0 c2) (ai (q1 c3) (round_Cell.jc k _ _ _ _ h)))) (by kernel_rfl)
  ·rcases ite_e h with ⟨c4, h⟩ | ⟨c4, h⟩
   ·exact pth Tryz.func25 [.r (.tu [.s (.i .i64 bt530.1), .s (.i .i64 bt530.2)]), .br false, .br false, .br true, .cut 0 [0, 1, 4, 25] [0] []] (fun _ => ai (binary_ClassOf.c A1) (ai (n0 c2) (ai (q0 c3) (ai (q1 c4) (round_Cell.jc k _ _ _ _ h))))) (by kernel_rfl)
   ·exact pth Tryz.func25 [.r (.tu [.s (.i .i64 bt530.1), .s (.i .i64 bt530.2)]), .br false, .br false, .br false, .cut 1 [0, 1, 4, 25] [0] []] (fun _ => ai (binary_ClassOf.c A1) (ai (n0 c2) (ai (q0 c3) (ai (q0 c4) (round_Cell.jc k _ _ _ _ h))))) (by kernel_rfl)
 ·have h := si h; subst h
  exact pth Tryz.func25 [.r (.tu [.s (.i .i64 bt530.1), .s (.i .i64 bt530.2)]), .br true] (fun e => ai (binary_ClassOf.c A1) (ai (n1 c2) e)) (by kernel_rfl)
def gnomonref01_Same.l0 : Nat → List Int → List Int → Int → Option (Bool)
 | 0, _, _, _ => none
 | k + 1, x0, x1, x5 => if x5 < (x0.length : Int) then (if 0 ≤ x5 then (if x5 < (x1.length : Int) then (if (rd x0 x5) = (rd x1 x5) then (gnomonref01_Same.l0 k x0 x1 (wrap64 (x5 + 1))) else (some false)) else (none)) else (none)) else (some true)
def gnomonref01_Same.f (k : Nat) (l0 : List Int) (l1 : List Int) : Option (Bool) := if (l0.length : Int) = (l1.length : Int) then (gnomonref01_Same.l0 k l0 l1 0) else (some false)
theorem gnomonref01_Same.mono_l : ∀ k, (∀ y0 y1 y2, LeO (gnomonref01_Same.l0 k y0 y1 y2) (gnomonref01_Same.l0 (k + 1) y0 y1 y2))
 | 0 => fun _ _ _ r h => by simp [gnomonref01_Same.l0] at h
 | k + 1 => by
  have ih0 := gnomonref01_Same.mono_l k
  ·intro y0 y1 y2
   unfold gnomonref01_Same.l0
   repeat' first
   | (with_reducible exact ih0 _ _ _)
   | (with_reducible exact LeO.refl _)
   | (with_reducible exact LeO.none _)
   | (with_reducible refine LeO.ite ?_ ?_)
   | (with_reducible refine LeO.bind ?_ (fun _ => ?_))
   | exact ih0 _ _ _
   | exact LeO.none _
   | refine LeO.ite ?_ ?_
   | refine LeO.bind ?_ (fun _ => ?_)
theorem gnomonref01_Same.mono : ∀ a0 a1 k, LeO (gnomonref01_Same.f k a0 a1) (gnomonref01_Same.f (k + 1) a0 a1) := by
 intro a0 a1 k
 have ih0 := gnomonref01_Same.mono_l k
 unfold gnomonref01_Same.f
 repeat' first
   | (with_reducible exact ih0 _ _ _)
   | (with_reducible exact LeO.refl _)
   | (with_reducible exact LeO.none _)
   | (with_reducible refine LeO.ite ?_ ?_)
   | (with_reducible refine LeO.bind ?_ (fun _ => ?_))
   | exact ih0 _ _ _
   | exact LeO.none _
   | refine LeO.ite ?_ ?_
   | refine LeO.bind ?_ (fun _ => ?_)
theorem gnomonref01_Same.jc : ∀ k : Nat, (∀ (x0 : List Int) (x1 : List Int) (x5 : Int) (r : Bool), gnomonref01_Same.l0 k x0 x1 x5 = some r → Fin Tryz.prog Gw 118 (nav (bodyOf Tryz.f118) [1, 1, 0, 1, 0, 0] []) ⟨mkT 26 [(0, .s (.sl .u64 x0)), (1, .s (.sl .u64 x1)), (5, .s (.i .i64 x5))], []⟩ (· = .s (.b r)))
 | 0 => (fun _ _ _ _ h => nn h)
 | k + 1 => by
  have ih := gnomonref01_Same.jc k
  ·intro x0 x1 x5 r h
   rw [gnomonref01_Same.l0] at h
   rcases ite_e h with ⟨c1, h⟩ | ⟨c1, h⟩
   ·rcases ite_e h with ⟨c2, h⟩ | ⟨c2, h⟩
    ·rcases ite_e h with ⟨c3, h⟩ | ⟨c3, h⟩
     ·rcases ite_e h with ⟨c4, h⟩ | ⟨c4, h⟩
      ·exact jth Tryz.func118 [.br true, .br false, .cut 1 [0, 1, 5] [] []] (fun _ => ai (d1 c1) (ai c2 (ai c1 (ai c2 (ai c3 (ai (n0 c4) (ih _ _ _ _ h))))))) (by kernel_rfl)
      ·have h := si h; subst h
       exact jth Tryz.func118 [.br true, .br true] (fun e => ai (d1 c1) (ai c2 (ai c1 (ai c2 (ai c3 (ai (n1 c4) e)))))) (by kernel_rfl)
     ·cases h
    ·cases h
   ·have h := si h; subst h
    exact jth Tryz.func118 [.br false] (fun e => ai (d0 c1) e) (by kernel_rfl)
theorem gnomonref01_Same.c {k : Nat} {l0 : List Int} {l1 : List Int} {r : Bool} (h : gnomonref01_Same.f k l0 l1 = some r) : Con Tryz.prog Gw 118 [.s (.sl .u64 l0), .s (.sl .u64 l1)] (· = .s (.b r)) := by
 unfold gnomonref01_Same.f at h
 rcases ite_e h with ⟨c1, h⟩ | ⟨c1, h⟩
 ·exact pth Tryz.func118 [.br false, .cut 1 [0, 1, 5] [] []] (fun _ => ai (n0 c1) (gnomonref01_Same.jc k _ _ _ _ h)) (by kernel_rfl)
 ·have h := si h; subst h
  exact pth Tryz.func118 [.br true] (fun e => ai (n1 c1) e) (by kernel_rfl)
def gnomonref05_Same.f (k : Nat) (a0_0 : Bool) (l0_1 : List Int) (a0_2 : Int) (a1_0 : Bool) (l1_1 : List Int) (a1_2 : Int) : Option (Bool) := if (a0_0 == a1_0) = true then (if a0_2 = a1_2 then ((gnomonref01_Same.f k l0_1 l1_1).bind fun t550 => (some t550)) else (some false)) else (some false)
theorem gnomonref05_Same.mono : ∀ a0 a1 a2 a3 a4 a5 k, LeO (gnomonref05_Same.f k a0 a1 a2 a3 a4 a5) (gnomonref05_Same.f (k + 1) a0 a1 a2 a3 a4 a5) := by
 intro a0 a1 a2 a3 a4 a5 k
 unfold gnomonref05_Same.f
 repeat' first
   | (with_reducible exact gnomonref01_Same.mono _ _ _)
   | (with_reducible exact LeO.refl _)
   | (with_reducible exact LeO.none _)
   | (with_reducible refine LeO.ite ?_ ?_)
   | (with_reducible refine LeO.bind ?_ (fun _ => ?_))
   | exact gnomonref01_Same.mono _ _ _
   | exact LeO.none _
   | refine LeO.ite ?_ ?_
   | refine LeO.bind ?_ (fun _ => ?_)
theorem gnomonref05_Same.c {k : Nat} {a0_0 : Bool} {l0_1 : List Int} {a0_2 : Int} {a1_0 : Bool} {l1_1 : List Int} {a1_2 : Int} {r : Bool} (h : gnomonref05_Same.f k a0_0 l0_1 a0_2 a1_0 l1_1 a1_2 = some r) : Con Tryz.prog Gw 64 [.ag [.b a0_0, .sl .u64 l0_1, .i .i64 a0_2], .ag [.b a1_0, .sl .u64 l1_1, .i .i64 a1_2]] (· = .s (.b r)) := by
 unfold gnomonref05_Same.f at h
 rcases ite_e h with ⟨c1, h⟩ | ⟨c1, h⟩
 ·rcases ite_e h with ⟨c2, h⟩ | ⟨c2, h⟩
  ·obtain ⟨t550, A3, h⟩ := bnd h
   have h := si h; subst h
   exact pth Tryz.func64 [.br true, .br true, .br true, .br true, .br true, .br true, .br true, .br true, .br true, .br true, .br true, .br true, .br true, .r (.s (.b t550)), .br true] (fun e => ai c1 (ai c1 (ai c1 (ai c1 (ai c1 (ai c1 (ai (q1 c2) (ai (q1 c2) (ai (q1 c2) (ai (q1 c2) (ai (q1 c2) (ai (q1 c2) (ai (q1 c2) (ai (gnomonref01_Same.c A3) (ai (q1 c2) e))))))))))))))) (by kernel_rfl)
  ·have h := si h; subst h
   exact pth Tryz.func64 [.br true, .br true, .br true, .br true, .br true, .br true, .br false, .br false, .br false, .br false, .br false, .br false, .br false, .br false] (fun e => ai c1 (ai c1 (ai c1 (ai c1 (ai c1 (ai c1 (ai (q0 c2) (ai (q0 c2) (ai (q0 c2) (ai (q0 c2) (ai (q0 c2) (ai (q0 c2) (ai (q0 c2) (ai (q0 c2) e)))))))))))))) (by kernel_rfl)
 ·have h := si h; subst h
  exact pth Tryz.func64 [.br false, .br false, .br false, .br false, .br false, .br false, .br false, .br false, .br false, .br false, .br false, .br false, .br false, .br false] (fun e => ai (z0 c1) (ai (z0 c1) (ai (z0 c1) (ai (z0 c1) (ai (z0 c1) (ai (z0 c1) (ai ff (ai ff (ai ff (ai ff (ai ff (ai ff (ai ff (ai ff e)))))))))))))) (by kernel_rfl)
def gnomonlaw08_spans.f (k : Nat) (a0_0 : Bool) (l0_1 : List Int) (a0_2 : Int) (a0_3 : Bool) (l0_4 : List Int) (a0_5 : Int) (a1_0 : Bool) (l1_1 : List Int) (a1_2 : Int) (a1_3 : Bool) (l1_4 : List Int) (a1_5 : Int) : Option (Bool) := (gnomonref05_Same.f k a0_0 l0_1 a0_2 a1_0 l1_1 a1_2).bind fun t553 => (if t553 = true then ((gnomonref05_Same.f k a0_3 l0_4 a0_5 a1_3 l1_4 a1_5).bind fun t554 => (some t554)) else (some false))
theorem gnomonlaw08_spans.mono : ∀ a0 a1 a2 a3 a4 a5 a6 a7 a8 a9 a10 a11 k, LeO (gnomonlaw08_spans.f k a0 a1 a2 a3 a4 a5 a6 a7 a8 a9 a10 a11) (gnomonlaw08_spans.f (k + 1) a0 a1 a2 a3 a4 a5 a6 a7 a8 a9 a10 a11) := by
 intro a0 a1 a2 a3 a4 a5 a6 a7 a8 a9 a10 a11 k
 unfold gnomonlaw08_spans.f
 repeat' first
   | (with_reducible exact gnomonref05_Same.mono _ _ _ _ _ _ _)
   | (with_reducible exact LeO.refl _)
   | (with_reducible exact LeO.none _)
   | (with_reducible refine LeO.ite ?_ ?_)
   | (with_reducible refine LeO.bind ?_ (fun _ => ?_))
   | exact gnomonref05_Same.mono _ _ _ _ _ _ _
   | exact LeO.none _
   | refine LeO.ite ?_ ?_
   | refine LeO.bind ?_ (fun _ => ?_)
theorem gnomonlaw08_spans.c {k : Nat} {a0_0 : Bool} {l0_1 : List Int} {a0_2 : Int} {a0_3 : Bool} {l0_4 : List Int} {a0_5 : Int} {a1_0 : Bool} {l1_1 : List Int} {a1_2 : Int} {a1_3 : Bool} {l1_4 : List Int} {a1_5 : Int} {r : Bool} (h : gnomonlaw08_spans.f k a0_0 l0_1 a0_2 a0_3 l0_4 a0_5 a1_0 l1_1 a1_2 a1_3 l1_4 a1_5 = some r) : Con Tryz.prog Gw 31 [.ag [.b a0_0, .sl .u64 l0_1, .i .i64 a0_2, .b a0_3, .sl .u64 l0_4, .i .i64 a0_5], .ag [.b a1_0, .sl .u64 l1_1, .i .i64 a1_2, .b a1_3, .sl .u64 l1_4, .i .i64 a1_5]] (· = .s (.b r)) := by
 unfold gnomonlaw08_spans.f at h
 obtain ⟨t553, A1, h⟩ := bnd h
 rcases ite_e h with ⟨c2, h⟩ | ⟨c2, h⟩
 ·obtain ⟨t554, A3, h⟩ := bnd h
  have h := si h; subst h
  exact pth Tryz.func31 [.r (.s (.b t553)), .br true, .br true, .br true, .br true, .br true, .r (.s (.b t554)), .br true] (fun e => ai (gnomonref05_Same.c A1) (ai c2 (ai c2 (ai c2 (ai c2 (ai c2 (ai (gnomonref05_Same.c A3) (ai c2 e)))))))) (by kernel_rfl)
 ·have h := si h; subst h
  exact pth Tryz.func31 [.r (.s (.b t553)), .br false, .br false, .br false, .br false, .br false, .br false] (fun e => ai (gnomonref05_Same.c A1) (ai (z0 c2) (ai (z0 c2) (ai (z0 c2) (ai (z0 c2) (ai (z0 c2) (ai (z0 c2) e))))))) (by kernel_rfl)
def span_cmp.f (k : Nat) (a0_0 : Bool) (l0_1 : List Int) (a0_2 : Int) (a1_0 : Bool) (l1_1 : List Int) (a1_2 : Int) : Option (Int) := (dyadic_Cmp.f k a0_0 l0_1 a0_2 a1_0 l1_1 a1_2).bind fun bt651 => (some bt651.1)
theorem span_cmp.mono : ∀ a0 a1 a2 a3 a4 a5 k, LeO (span_cmp.f k a0 a1 a2 a3 a4 a5) (span_cmp.f (k + 1) a0 a1 a2 a3 a4 a5) := by
 intro a0 a1 a2 a3 a4 a5 k
 unfold span_cmp.f
 repeat' first
   | (with_reducible exact dyadic_Cmp.mono _ _ _ _ _ _ _)
   | (with_reducible exact LeO.refl _)
   | (with_reducible exact LeO.none _)
   | (with_reducible refine LeO.ite ?_ ?_)
   | (with_reducible refine LeO.bind ?_ (fun _ => ?_))
   | exact dyadic_Cmp.mono _ _ _ _ _ _ _
   | exact LeO.none _
   | refine LeO.ite ?_ ?_
   | refine LeO.bind ?_ (fun _ => ?_)
theorem span_cmp.c {k : Nat} {a0_0 : Bool} {l0_1 : List Int} {a0_2 : Int} {a1_0 : Bool} {l1_1 : List Int} {a1_2 : Int} {r : Int} (h : span_cmp.f k a0_0 l0_1 a0_2 a1_0 l1_1 a1_2 = some r) : Con Tryz.prog Gw 120 [.ag [.b a0_0, .sl .u64 l0_1, .i .i64 a0_2], .ag [.b a1_0, .sl .u64 l1_1, .i .i64 a1_2]] (· = .s (.i .i64 r)) := by
 unfold span_cmp.f at h
 obtain ⟨bt651, A1, h⟩ := bnd h
 have h := si h; subst h
 exact pth Tryz.func120 [.r (.tu [.s (.i .i64 bt651.1), .s (.i .i64 bt651.2)])] (fun e => ai (dyadic_Cmp.c A1) e) (by kernel_rfl)
def span_Form.f (k : Nat) (a0_0 : Bool) (l0_1 : List Int) (a0_2 : Int) (a0_3 : Bool) (l0_4 : List Int) (a0_5 : Int) : Option (Bool) := (dyadic_Form.f k a0_0 l0_1 a0_2).bind fun t654 => (if t654 = true then ((dyadic_Form.f k a0_3 l0_4 a0_5).bind fun t655 => (if t655 = true then ((span_cmp.f k a0_0 l0_1 a0_2 a0_3 l0_4 a0_5).bind fun t656 => (some (decide (t656 ≤ 0)))) else (some false))) else (some false))
theorem span_Form.mono : ∀ a0 a1 a2 a3 a4 a5 k, LeO (span_Form.f k a0 a1 a2 a3 a4 a5) (span_Form.f (k + 1) a0 a1 a2 a3 a4 a5) := by
 intro a0 a1 a2 a3 a4 a5 k
 unfold span_Form.f
 repeat' first
   | (with_reducible exact dyadic_Form.mono _ _ _ _)
   | (with_reducible exact span_cmp.mono _ _ _ _ _ _ _)
   | (with_reducible exact LeO.refl _)
   | (with_reducible exact LeO.none _)
   | (with_reducible refine LeO.ite ?_ ?_)
   | (with_reducible refine LeO.bind ?_ (fun _ => ?_))
   | exact dyadic_Form.mono _ _ _ _
   | exact span_cmp.mono _ _ _ _ _ _ _
   | exact LeO.none _
   | refine LeO.ite ?_ ?_
   | refine LeO.bind ?_ (fun _ => ?_)
theorem span_Form.c {k : Nat} {a0_0 : Bool} {l0_1 : List Int} {a0_2 : Int} {a0_3 : Bool} {l0_4 : List Int} {a0_5 : Int} {r : Bool} (h : span_Form.f k a0_0 l0_1 a0_2 a0_3 l0_4 a0_5 = some r) : Con Tryz.prog Gw 66 [.ag [.b a0_0, .sl .u64 l0_1, .i .i64 a0_2, .b a0_3, .sl .u64 l0_4, .i .i64 a0_5]] (· = .s (.b r)) := by
 unfold span_Form.f at h
 obtain ⟨t654, A1, h⟩ := bnd h
 rcases ite_e h with ⟨c2, h⟩ | ⟨c2, h⟩
 ·obtain ⟨t655, A3, h⟩ := bnd h
  rcases ite_e h with ⟨c4, h⟩ | ⟨c4, h⟩
  ·obtain ⟨t656, A5, h⟩ := bnd h
   have h := si h; subst h
   exact pth Tryz.func66 [.r (.s (.b t654)), .br true, .br true, .br true, .r (.s (.b t655)), .br true, .br true, .br true, .br true, .br true, .br true, .r (.s (.i .i64 t656)), .br true, .br true] (fun e => ai (dyadic_Form.c A1) (ai c2 (ai c2 (ai c2 (ai (dyadic_Form.c A3) (ai c2 (ai c4 (ai c4 (ai c4 (ai c4 (ai c4 (ai (span_cmp.c A5) (ai c4 (ai c4 e)))))))))))))) (by kernel_rfl)
  ·have h := si h; subst h
   exact pth Tryz.func66 [.r (.s (.b t654)), .br true, .br true, .br true, .r (.s (.b t655)), .br true, .br false, .br false, .br false, .br false, .br false, .br false, .br false] (fun e => ai (dyadic_Form.c A1) (ai c2 (ai c2 (ai c2 (ai (dyadic_Form.c A3) (ai c2 (ai (z0 c4) (ai (z0 c4) (ai (z0 c4) (ai (z0 c4) (ai (z0 c4) (ai (z0 c4) (ai (z0 c4) e))))))))))))) (by kernel_rfl)
 ·have h := si h; subst h
  exact pth Tryz.func66 [.r (.s (.b t654)), .br false, .br false, .br false, .br false, .br false, .br false, .br false, .br false, .br false, .br false, .br false] (fun e => ai (dyadic_Form.c A1) (ai (z0 c2) (ai (z0 c2) (ai (z0 c2) (ai (z0 c2) (ai ff (ai ff (ai ff (ai ff (ai ff (ai ff (ai ff e)))))))))))) (by kernel_rfl)
def round_Decide.f (k : Nat) (a0 : Int) (a1_0 : Bool) (l1_1 : List Int) (a1_2 : Int) (a1_3 : Bool) (l1_4 : List Int) (a1_5 : Int) : Option (Int × Bool × Int) := (round_of.f a0).bind fun bt658 => (if (bt658.1 == 0 && (bt658.2.1 == 0 && (bt658.2.2 == 0))) = true then (some (0, false, 1)) else ((span_Form.f k a1_0 l1_1 a1_2 a1_3 l1_4 a1_5).bind fun t662 => (if t662 = true then ((round_Nearest.f k a0 a1_0 l1_1 a1_2).bind fun bt663 => ((round_Nearest.f k a0 a1_3 l1_4 a1_5).bind fun bt665 => (if bt663.1 = bt665.1 then (some (bt663.1, true, 0)) else (some (0, false, 0))))) else (some (0, false, 2)))))
theorem round_Decide.mono : ∀ a0 a1 a2 a3 a4 a5 a6 k, LeO (round_Decide.f k a0 a1 a2 a3 a4 a5 a6) (round_Decide.f (k + 1) a0 a1 a2 a3 a4 a5 a6) := by
 intro a0 a1 a2 a3 a4 a5 a6 k
 unfold round_Decide.f
 repeat' first
   | (with_reducible exact round_Nearest.mono _ _ _ _ _)
   | (with_reducible exact span_Form.mono _ _ _ _ _ _ _)
   | (with_reducible exact LeO.refl _)
   | (with_reducible exact LeO.none _)
   | (with_reducible refine LeO.ite ?_ ?_)
   | (with_reducible refine LeO.bind ?_ (fun _ => ?_))
   | exact round_Nearest.mono _ _ _ _ _
   | exact span_Form.mono _ _ _ _ _ _ _
   | exact LeO.none _
   | refine LeO.ite ?_ ?_
   | refine LeO.bind ?_ (fun _ => ?_)
theorem round_Decide.c {k : Nat} {a0 : Int} {a1_0 : Bool} {l1_1 : List Int} {a1_2 : Int} {a1_3 : Bool} {l1_4 : List Int} {a1_5 : Int} {r : Int × Bool × Int} (h : round_Decide.f k a0 a1_0 l1_1 a1_2 a1_3 l1_4 a1_5 = some r) : Con Tryz.prog Gw 30 [.s (.i .i64 a0), .ag [.b a1_0, .sl .u64 l1_1, .i .i64 a1_2, .b a1_3, .sl .u64 l1_4, .i .i64 a1_5]] (· = .tu [.s (.i .u64 r.1), .s (.b r.2.1), .s (.i .i64 r.2.2)]) := by
 unfold round_Decide.f at h
 obtain ⟨bt658, A1, h⟩ := bnd h
 rcases ite_e h with ⟨c2, h⟩ | ⟨c2, h⟩
 ·have h := si h; subst h
  exact pth Tryz.func30 [.r (.ag [.i .i64 bt658.1, .i .i64 bt658.2.1, .i .i64 bt658.2.2]), .br true] (fun e => ai (round_of.c A1) (ai c2 e)) (by kernel_rfl)
 ·obtain ⟨t662, A3, h⟩ := bnd h
  rcases ite_e h with ⟨c4, h⟩ | ⟨c4, h⟩
  ·obtain ⟨bt663, A5, h⟩ := bnd h
   obtain ⟨bt665, A6, h⟩ := bnd h
   rcases ite_e h with ⟨c7, h⟩ | ⟨c7, h⟩
   ·have h := si h; subst h
    exact pth Tryz.func30 [.r (.ag [.i .i64 bt658.1, .i .i64 bt658.2.1, .i .i64 bt658.2.2]), .br false, .r (.s (.b t662)), .br false, .r (.tu [.s (.i .u64 bt663.1), .s (.i .i64 bt663.2)]), .r (.tu [.s (.i .u64 bt665.1), .s (.i .i64 bt665.2)]), .br false] (fun e => ai (round_of.c A1) (ai (z0 c2) (ai (span_Form.c A3) (ai (nt1 c4) (ai (round_Nearest.c A5) (ai (round_Nearest.c A6) (ai (n0 c7) e))))))) (by kernel_rfl)
   ·have h := si h; subst h
    exact pth Tryz.func30 [.r (.ag [.i .i64 bt658.1, .i .i64 bt658.2.1, .i .i64 bt658.2.2]), .br false, .r (.s (.b t662)), .br false, .r (.tu [.s (.i .u64 bt663.1), .s (.i .i64 bt663.2)]), .r (.tu [.s (.i .u64 bt665.1), .s (.i .i64 bt665.2)]), .br true] (fun e => ai (round_of.c A1) (ai (z0 c2) (ai (span_Form.c A3) (ai (nt1 c4) (ai (round_Nearest.c A5) (ai (round_Nearest.c A6) (ai (n1 c7) e))))))) (by kernel_rfl)
  ·have h := si h; subst h
   exact pth Tryz.func30 [.r (.ag [.i .i64 bt658.1, .i .i64 bt658.2.1, .i .i64 bt658.2.2]), .br false, .r (.s (.b t662)), .br true] (fun e => ai (round_of.c A1) (ai (z0 c2) (ai (span_Form.c A3) (ai (nt0 (z0 c4)) e)))) (by kernel_rfl)
def binary_Value.f (k : Nat) (a0 : Int) (a1 : Int) : Option (Bool × List Int × Int × Int) := (binary_finite.f k a0 a1).bind fun bt1 => (if bt1.2.2.2.2.2.2 = 0 then ((binary_shape_parts.f bt1.1 bt1.2.1 bt1.2.2.1 bt1.2.2.2.1 bt1.2.2.2.2.2.1).bind fun bt2 => ((binary_number.f k bt1.2.2.2.2.1 bt2.1 bt2.2).bind fun bt3 => (some (bt3.1, bt3.2.1, bt3.2.2.1, bt3.2.2.2)))) else (some (false, ([] : List Int), 0, bt1.2.2.2.2.2.2)))
theorem binary_Value.mono : ∀ a0 a1 k, LeO (binary_Value.f k a0 a1) (binary_Value.f (k + 1) a0 a1) := by
 intro a0 a1 k
 unfold binary_Value.f
 repeat' first
  | (with_reducible exact binary_finite.mono _ _ _)
  | (with_reducible exact binary_number.mono _ _ _ _)
  | (with_reducible exact LeO.refl _)
  | (with_reducible exact LeO.none _)
  | (with_reducible refine LeO.ite ?_ ?_)
  | (with_reducible refine LeO.bind ?_ (fun _ => ?_))
theorem binary_Value.c {k : Nat} {a0 : Int} {a1 : Int} {r : Bool × List Int × Int × Int} (h : binary_Value.f k a0 a1 = some r) : Con Tryz.prog Gw 69 [.s (.i .i64 a0), .s (.i .u64 a1)] (· = .tu [.ag [.b r.1, .sl .u64 r.2.1, .i .i64 r.2.2.1], .s (.i .i64 r.2.2.2)]) := by
 unfold binary_Value.f at h
 obtain ⟨bt1, A1, h⟩ := bnd h
 rcases ite_e h with ⟨c2, h⟩ | ⟨c2, h⟩
 ·obtain ⟨bt2, A3, h⟩ := bnd h
  obtain ⟨bt3, A4, h⟩ := bnd h
  have h := si h; subst h
  exact pth Tryz.func69 [.r (.tu [.ag [.i .i64 bt1.1, .i .i64 bt1.2.1, .i .i64 bt1.2.2.1, .i .u64 bt1.2.2.2.1], .s (.b bt1.2.2.2.2.1), .s (.i .u64 bt1.2.2.2.2.2.1), .s (.i .i64 bt1.2.2.2.2.2.2)]), .br false, .r (.tu [.s (.i .u64 bt2.1), .s (.i .i64 bt2.2)]), .r (.tu [.ag [.b bt3.1, .sl .u64 bt3.2.1, .i .i64 bt3.2.2.1], .s (.i .i64 bt3.2.2.2)])] (fun e => ai (binary_finite.c A1) (ai (n0 c2) (ai (binary_shape_parts.c A3) (ai (binary_number.c A4) e)))) (by kernel_rfl)
 ·have h := si h; subst h
  exact pth Tryz.func69 [.r (.tu [.ag [.i .i64 bt1.1, .i .i64 bt1.2.1, .i .i64 bt1.2.2.1, .i .u64 bt1.2.2.2.1], .s (.b bt1.2.2.2.2.1), .s (.i .u64 bt1.2.2.2.2.2.1), .s (.i .i64 bt1.2.2.2.2.2.2)]), .br true] (fun e => ai (binary_finite.c A1) (ai (n1 c2) e)) (by kernel_rfl)
def binary_Quiet.f (a0 : Int) : Option (Int × Int) := (binary_shapeOf.f a0).bind fun bt1 => (if (bt1.1 == 0 && (bt1.2.1 == 0 && (bt1.2.2.1 == 0 && (bt1.2.2.2 == 0)))) = true then (some (0, 1)) else (some (bt1.2.2.2, 0)))
theorem binary_Quiet.c {a0 : Int} {r : Int × Int} (h : binary_Quiet.f a0 = some r) : Con Tryz.prog Gw 67 [.s (.i .i64 a0)] (· = .tu [.s (.i .u64 r.1), .s (.i .i64 r.2)]) := by
 unfold binary_Quiet.f at h
 obtain ⟨bt1, A1, h⟩ := bnd h
 rcases ite_e h with ⟨c2, h⟩ | ⟨c2, h⟩
 ·have h := si h; subst h
  exact pth Tryz.func67 [.r (.ag [.i .i64 bt1.1, .i .i64 bt1.2.1, .i .i64 bt1.2.2.1, .i .u64 bt1.2.2.2]), .br true] (fun e => ai (binary_shapeOf.c A1) (ai c2 e)) (by kernel_rfl)
 ·have h := si h; subst h
  exact pth Tryz.func67 [.r (.ag [.i .i64 bt1.1, .i .i64 bt1.2.1, .i .i64 bt1.2.2.1, .i .u64 bt1.2.2.2]), .br false] (fun e => ai (binary_shapeOf.c A1) (ai (z0 c2) e)) (by kernel_rfl)
def round_Narrow.f (k : Nat) (a0 : Int) : Option (Int × Int) := (binary_ClassOf.f k 64 a0).bind fun bt1 => ((round_of.f 32).bind fun bt2 => (if bt1.1 = 4 then ((binary_Quiet.f 32).bind fun bt3 => (some (bt3.1, bt3.2))) else (if bt1.1 = 3 then ((round_widths_infinity.f bt2.1 bt2.2.1 bt2.2.2).bind fun t4 => ((round_widths_signed.f bt2.1 bt2.2.1 bt2.2.2 ((shr .u64 a0 63) == 1) t4).bind fun t5 => (some (t5, 0)))) else (if bt1.1 = 0 then ((round_widths_signed.f bt2.1 bt2.2.1 bt2.2.2 ((shr .u64 a0 63) == 1) 0).bind fun t6 => (some (t6, 0))) else ((binary_Value.f k 64 a0).bind fun bt7 => ((round_Nearest.f k 32 bt7.1 bt7.2.1 bt7.2.2.1).bind fun bt8 => (some (bt8.1, bt8.2))))))))
theorem round_Narrow.mono : ∀ a0 k, LeO (round_Narrow.f k a0) (round_Narrow.f (k + 1) a0) := by
 intro a0 k
 unfold round_Narrow.f
 repeat' first
  | (with_reducible exact binary_ClassOf.mono _ _ _)
  | (with_reducible exact binary_Value.mono _ _ _)
  | (with_reducible exact round_Nearest.mono _ _ _ _ _)
  | (with_reducible exact LeO.refl _)
  | (with_reducible exact LeO.none _)
  | (with_reducible refine LeO.ite ?_ ?_)
  | (with_reducible refine LeO.bind ?_ (fun _ => ?_))
theorem round_Narrow.c {k : Nat} {a0 : Int} {r : Int × Int} (h : round_Narrow.f k a0 = some r) : Con Tryz.prog Gw 32 [.s (.i .u64 a0)] (· = .tu [.s (.i .u64 r.1), .s (.i .i64 r.2)]) := by
 unfold round_Narrow.f at h
 obtain ⟨bt1, A1, h⟩ := bnd h
 obtain ⟨bt2, A2, h⟩ := bnd h
 rcases ite_e h with ⟨c3, h⟩ | ⟨c3, h⟩
 ·obtain ⟨bt3, A4, h⟩ := bnd h
  have h := si h; subst h
  exact pth Tryz.func32 [.r (.tu [.s (.i .i64 bt1.1), .s (.i .i64 bt1.2)]), .r (.ag [.i .i64 bt2.1, .i .i64 bt2.2.1, .i .i64 bt2.2.2]), .br true, .r (.tu [.s (.i .u64 bt3.1), .s (.i .i64 bt3.2)])] (fun e => ai (binary_ClassOf.c A1) (ai (round_of.c A2) (ai (by decide : (0 : Int) ≤ 63) (ai (q1 c3) (ai (binary_Quiet.c A4) e))))) (by kernel_rfl)
 ·rcases ite_e h with ⟨c5, h⟩ | ⟨c5, h⟩
  ·obtain ⟨t4, A6, h⟩ := bnd h
   obtain ⟨t5, A7, h⟩ := bnd h
   have h := si h; subst h
   exact pth Tryz.func32 [.r (.tu [.s (.i .i64 bt1.1), .s (.i .i64 bt1.2)]), .r (.ag [.i .i64 bt2.1, .i .i64 bt2.2.1, .i .i64 bt2.2.2]), .br false, .br true, .r (.s (.i .u64 t4)), .r (.s (.i .u64 t5))] (fun e => ai (binary_ClassOf.c A1) (ai (round_of.c A2) (ai (by decide : (0 : Int) ≤ 63) (ai (q0 c3) (ai (q1 c5) (ai (round_widths_infinity.c A6) (ai (round_widths_signed.c A7) e))))))) (by kernel_rfl)
  ·rcases ite_e h with ⟨c8, h⟩ | ⟨c8, h⟩
   ·obtain ⟨t6, A9, h⟩ := bnd h
    have h := si h; subst h
    exact pth Tryz.func32 [.r (.tu [.s (.i .i64 bt1.1), .s (.i .i64 bt1.2)]), .r (.ag [.i .i64 bt2.1, .i .i64 bt2.2.1, .i .i64 bt2.2.2]), .br false, .br false, .br true, .r (.s (.i .u64 t6))] (fun e => ai (binary_ClassOf.c A1) (ai (round_of.c A2) (ai (by decide : (0 : Int) ≤ 63) (ai (q0 c3) (ai (q0 c5) (ai (q1 c8) (ai (round_widths_signed.c A9) e))))))) (by kernel_rfl)
   ·obtain ⟨bt7, A10, h⟩ := bnd h
    obtain ⟨bt8, A11, h⟩ := bnd h
    have h := si h; subst h
    exact pth Tryz.func32 [.r (.tu [.s (.i .i64 bt1.1), .s (.i .i64 bt1.2)]), .r (.ag [.i .i64 bt2.1, .i .i64 bt2.2.1, .i .i64 bt2.2.2]), .br false, .br false, .br false, .r (.tu [.ag [.b bt7.1, .sl .u64 bt7.2.1, .i .i64 bt7.2.2.1], .s (.i .i64 bt7.2.2.2)]), .r (.tu [.s (.i .u64 bt8.1), .s (.i .i64 bt8.2)])] (fun e => ai (binary_ClassOf.c A1) (ai (round_of.c A2) (ai (by decide : (0 : Int) ≤ 63) (ai (q0 c3) (ai (q0 c5) (ai (q0 c8) (ai (binary_Value.c A10) (ai (round_Nearest.c A11) e)))))))) (by kernel_rfl)
end Go.Proofs.YtelfmddcjlocpaaGreatDoor.PLib
end
section
namespace Go.Proofs.YtelfmddcjlocpaaGreatDoor.PRef
open Go.RowKit Go.Proofs.YtelfmddcjlocpaaGreatDoorW.PrintWords Go.Proofs.YtelfmddcjlocpaaGreatDoorW.PrintLast Go.Proofs.YtelfmddcjlocpaaGreatDoorW.PrintMore Go.Proofs.YtelfmddcjlocpaaGreatDoor.Given Go.Proofs.YtelfmddcjlocpaaGreatDoor.GTab
attribute [local go_sem] max2_int min2_int max_two min_two max_three min_three max_four min_four   -- for this text's walks alone
set_option linter.unusedVariables false
set_option linter.unusedSimpArgs false
def errW : Option Int → Value
 | none => .nilIface
 | some c => .iface 0 (.int .i64 c)
theorem errW_none : errW none = .nilIface := rfl
theorem errW_some (c : Int) : errW (some c) = .iface 0 (.int .i64 c) := rfl
theorem info185 : (Tryz.prog.info? 185).map (fun i => (i.zero, i.size, i.bytes)) = some (some (.int .u32 0), 1, 4) := by kernel_rfl
end Go.Proofs.YtelfmddcjlocpaaGreatDoor.PRef
end
