/- Functions of the program as plain Lean functions (definitions as the print's), and that the machine's calls do what they do (contracts 'X.c', by Px). Condition: math/bits' table is laid. What the law's plays answers of Nearest and Narrow. Plain Lean over the functions. Condition: words. The walks of the laws RoundNarrows and RoundNearests: they return true, and the world has at most new blocks. Conditions: the script reads as calls; math/bits' table. -/
import Derived.Test.YtelfmddcjlocpaaGreatDoorKRoundNearestsPxL0
import Derived.Test.YtelfmddcjlocpaaGreatDoorKRoundNearestsPxL1
import Derived.Test.YtelfmddcjlocpaaGreatDoorKRoundNearestsPRefx0
import Derived.Test.YtelfmddcjlocpaaGreatDoorKRoundNearestsPxZ0
import Derived.Test.YtelfmddcjlocpaaGreatDoorKRoundNearestsTwin
import Derived.Test.YtelfmddcjlocpaaGreatDoorKRoundNearestsRnN
import Derived.Test.YtelfmddcjlocpaaGreatDoorKRoundNearestsRnAll
import Derived.Test.YtelfmddcjlocpaaGreatDoorProg
import Derived.Test.YtelfmddcjlocpaaGreatDoorKRoundNearestsGiven
import Derived.Below
import Derived.Deep.Draws
import Derived.Deep.AppendLies
import Derived.Maps.AppendAt
import Derived.OwnWalk
import Derived.Laws.BytesArg
import Derived.Laws.MakeOwn
import Derived.Laws.OwnMore
import Derived.Deep.OwnRows
import Derived.Tactics
import Derived.Lib.ConvBytes
import Derived.Laws.Slices
import Derived.WalkKit
import Derived.KernelRfl
import Derived.RowKit3
import Derived.Deep.LoopGhost
import Derived.Deep.QuietTactic
import Derived.BigQuiet
import Derived.WideLaws
import Derived.Deep.DeepCutAuto
import Derived.Deep.CutBlock
import Derived.Deep.RegionHeld3
import Derived.Laws.Rows
import Derived.Lib.AppendStr
import Derived.ArgAppend
import Derived.Laws.IdiomCopy
import Derived.OrdersHeld
import Derived.Laws.BitsLemmas
import Derived.RowKit
import Derived.Test.YtelfmddcjlocpaaGreatDoorKRoundNearestsWWords
import Derived.Test.YtelfmddcjlocpaaGreatDoorKRoundNearestsWLast
import Derived.Test.YtelfmddcjlocpaaGreatDoorKRoundNearestsWTab
import Derived.Test.YtelfmddcjlocpaaGreatDoorKRoundNearestsWMore
import Derived.Test.YtelfmddcjlocpaaGreatDoorKRoundNearestsWGuard
import Derived.Laws.StructEq
import Derived.Test.YtelfmddcjlocpaaGreatDoorKRoundNearestsPLenx0
section
set_option linter.unusedVariables false
namespace Go.Proofs.YtelfmddcjlocpaaGreatDoor.PLib
open Go Go.RowKit Go.Proofs.YtelfmddcjlocpaaGreatDoorW.PrintWords Go.Proofs.YtelfmddcjlocpaaGreatDoorW.PrintMore Go.Proofs.YtelfmddcjlocpaaGreatDoor.Given Go.Proofs.YtelfmddcjlocpaaGreatDoor.Px Go.Proofs.YtelfmddcjlocpaaGreatDoor.PRef
def gnomonlaw08_plays.f (k : Nat) (a0_0 : Int) (a0_1 : Int) (a0_2 : Bool) (l0_3 : List Int) (a0_4 : Int) (a0_5 : Bool) (l0_6 : List Int) (a0_7 : Int) (a0_8 : Int) : Option (Bool) := (gnomonlaw08_twin.f a0_0 a0_1 a0_2 l0_3 a0_4 a0_5 l0_6 a0_7 a0_8).bind fun bt1 => (if a0_0 = 1 then ((round_Nearest.f k a0_1 bt1.2.2.1 bt1.2.2.2.1 bt1.2.2.2.2.1).bind fun bt2 => ((gnomonref08_DocNearest.f k a0_1 a0_2 l0_3 a0_4).bind fun bt3 => (if bt2.1 = bt3.1 then (some (bt2.2 == bt3.2)) else (some false)))) else (if a0_0 = 2 then (none) else (if a0_0 = 3 then (none) else (if a0_0 = 4 then (none) else (if a0_0 = 5 then (none) else (if a0_0 = 6 then ((round_Narrow.f k a0_8).bind fun bt8 => ((gnomonref08_DocNarrow.f k a0_8).bind fun bt9 => (if bt8.1 = bt9.1 then (some (bt8.2 == bt9.2)) else (some false)))) else (some true)))))))
theorem gnomonlaw08_plays.mono : ∀ a0 a1 a2 a3 a4 a5 a6 a7 a8 k, LeO (gnomonlaw08_plays.f k a0 a1 a2 a3 a4 a5 a6 a7 a8) (gnomonlaw08_plays.f (k + 1) a0 a1 a2 a3 a4 a5 a6 a7 a8) := by
 intro a0 a1 a2 a3 a4 a5 a6 a7 a8 k
 unfold gnomonlaw08_plays.f
 repeat' first
  | (with_reducible exact gnomonref08_DocNarrow.mono _ _)
  | (with_reducible exact gnomonref08_DocNearest.mono _ _ _ _ _)
  | (with_reducible exact round_Narrow.mono _ _)
  | (with_reducible exact round_Nearest.mono _ _ _ _ _)
  | (with_reducible exact LeO.refl _)
  | (with_reducible exact LeO.none _)
  | (with_reducible refine LeO.ite ?_ ?_)
  | (with_reducible refine LeO.bind ?_ (fun _ => ?_))
theorem gnomonlaw08_plays.c {k : Nat} {a0_0 : Int} {a0_1 : Int} {a0_2 : Bool} {l0_3 : List Int} {a0_4 : Int} {a0_5 : Bool} {l0_6 : List Int} {a0_7 : Int} {a0_8 : Int} {r : Bool} (h : gnomonlaw08_plays.f k a0_0 a0_1 a0_2 l0_3 a0_4 a0_5 l0_6 a0_7 a0_8 = some r) : Con Tryz.prog Gw 65 [.ag [.i .i64 a0_0, .i .i64 a0_1, .b a0_2, .sl .u64 l0_3, .i .i64 a0_4, .b a0_5, .sl .u64 l0_6, .i .i64 a0_7, .i .u64 a0_8]] (· = .s (.b r)) := by
 unfold gnomonlaw08_plays.f at h
 obtain ⟨bt1, A1, h⟩ := bnd h
 rcases ite_e h with ⟨c2, h⟩ | ⟨c2, h⟩
 ·obtain ⟨bt2, A3, h⟩ := bnd h
  obtain ⟨bt3, A4, h⟩ := bnd h
  rcases ite_e h with ⟨c5, h⟩ | ⟨c5, h⟩
  ·have h := si h; subst h
   exact pth Tryz.func65 [.r (.ag [.i .i64 bt1.1, .i .i64 bt1.2.1, .b bt1.2.2.1, .sl .u64 bt1.2.2.2.1, .i .i64 bt1.2.2.2.2.1, .b bt1.2.2.2.2.2.1, .sl .u64 bt1.2.2.2.2.2.2.1, .i .i64 bt1.2.2.2.2.2.2.2.1, .i .u64 bt1.2.2.2.2.2.2.2.2]), .br true, .r (.tu [.s (.i .u64 bt2.1), .s (.i .i64 bt2.2)]), .r (.tu [.s (.i .u64 bt3.1), .s (.i .i64 bt3.2)]), .br true, .br true, .br true, .br true] (fun e => ai (gnomonlaw08_twin.c A1) (ai (q1 c2) (ai (round_Nearest.c A3) (ai (gnomonref08_DocNearest.c A4) (ai (q1 c5) (ai (q1 c5) (ai (q1 c5) (ai (q1 c5) e)))))))) (by kernel_rfl)
  ·have h := si h; subst h
   exact pth Tryz.func65 [.r (.ag [.i .i64 bt1.1, .i .i64 bt1.2.1, .b bt1.2.2.1, .sl .u64 bt1.2.2.2.1, .i .i64 bt1.2.2.2.2.1, .b bt1.2.2.2.2.2.1, .sl .u64 bt1.2.2.2.2.2.2.1, .i .i64 bt1.2.2.2.2.2.2.2.1, .i .u64 bt1.2.2.2.2.2.2.2.2]), .br true, .r (.tu [.s (.i .u64 bt2.1), .s (.i .i64 bt2.2)]), .r (.tu [.s (.i .u64 bt3.1), .s (.i .i64 bt3.2)]), .br false, .br false, .br false, .br false] (fun e => ai (gnomonlaw08_twin.c A1) (ai (q1 c2) (ai (round_Nearest.c A3) (ai (gnomonref08_DocNearest.c A4) (ai (q0 c5) (ai (q0 c5) (ai (q0 c5) (ai (q0 c5) e)))))))) (by kernel_rfl)
 ·rcases ite_e h with ⟨c6, h⟩ | ⟨c6, h⟩
  ·cases h
  ·rcases ite_e h with ⟨c7, h⟩ | ⟨c7, h⟩
   ·cases h
   ·rcases ite_e h with ⟨c8, h⟩ | ⟨c8, h⟩
    ·cases h
    ·rcases ite_e h with ⟨c9, h⟩ | ⟨c9, h⟩
     ·cases h
     ·rcases ite_e h with ⟨c10, h⟩ | ⟨c10, h⟩
      ·obtain ⟨bt8, A11, h⟩ := bnd h
       obtain ⟨bt9, A12, h⟩ := bnd h
       rcases ite_e h with ⟨c13, h⟩ | ⟨c13, h⟩
       ·have h := si h; subst h
        exact pth Tryz.func65 [.r (.ag [.i .i64 bt1.1, .i .i64 bt1.2.1, .b bt1.2.2.1, .sl .u64 bt1.2.2.2.1, .i .i64 bt1.2.2.2.2.1, .b bt1.2.2.2.2.2.1, .sl .u64 bt1.2.2.2.2.2.2.1, .i .i64 bt1.2.2.2.2.2.2.2.1, .i .u64 bt1.2.2.2.2.2.2.2.2]), .br false, .br false, .br false, .br false, .br false, .br true, .r (.tu [.s (.i .u64 bt8.1), .s (.i .i64 bt8.2)]), .r (.tu [.s (.i .u64 bt9.1), .s (.i .i64 bt9.2)]), .br true, .br true, .br true, .br true] (fun e => ai (gnomonlaw08_twin.c A1) (ai (q0 c2) (ai (q0 c6) (ai (q0 c7) (ai (q0 c8) (ai (q0 c9) (ai (q1 c10) (ai (round_Narrow.c A11) (ai (gnomonref08_DocNarrow.c A12) (ai (q1 c13) (ai (q1 c13) (ai (q1 c13) (ai (q1 c13) e))))))))))))) (by kernel_rfl)
       ·have h := si h; subst h
        exact pth Tryz.func65 [.r (.ag [.i .i64 bt1.1, .i .i64 bt1.2.1, .b bt1.2.2.1, .sl .u64 bt1.2.2.2.1, .i .i64 bt1.2.2.2.2.1, .b bt1.2.2.2.2.2.1, .sl .u64 bt1.2.2.2.2.2.2.1, .i .i64 bt1.2.2.2.2.2.2.2.1, .i .u64 bt1.2.2.2.2.2.2.2.2]), .br false, .br false, .br false, .br false, .br false, .br true, .r (.tu [.s (.i .u64 bt8.1), .s (.i .i64 bt8.2)]), .r (.tu [.s (.i .u64 bt9.1), .s (.i .i64 bt9.2)]), .br false, .br false, .br false, .br false] (fun e => ai (gnomonlaw08_twin.c A1) (ai (q0 c2) (ai (q0 c6) (ai (q0 c7) (ai (q0 c8) (ai (q0 c9) (ai (q1 c10) (ai (round_Narrow.c A11) (ai (gnomonref08_DocNarrow.c A12) (ai (q0 c13) (ai (q0 c13) (ai (q0 c13) (ai (q0 c13) e))))))))))))) (by kernel_rfl)
      ·have h := si h; subst h
       exact pth Tryz.func65 [.r (.ag [.i .i64 bt1.1, .i .i64 bt1.2.1, .b bt1.2.2.1, .sl .u64 bt1.2.2.2.1, .i .i64 bt1.2.2.2.2.1, .b bt1.2.2.2.2.2.1, .sl .u64 bt1.2.2.2.2.2.2.1, .i .i64 bt1.2.2.2.2.2.2.2.1, .i .u64 bt1.2.2.2.2.2.2.2.2]), .br false, .br false, .br false, .br false, .br false, .br false] (fun e => ai (gnomonlaw08_twin.c A1) (ai (q0 c2) (ai (q0 c6) (ai (q0 c7) (ai (q0 c8) (ai (q0 c9) (ai (q0 c10) e))))))) (by kernel_rfl)
end Go.Proofs.YtelfmddcjlocpaaGreatDoor.PLib
end
section
set_option linter.unusedVariables false
namespace Go.Proofs.YtelfmddcjlocpaaGreatDoor.RnP
open Go.RowKit Go.Proofs.YtelfmddcjlocpaaGreatDoorW.PrintWords Go.Proofs.YtelfmddcjlocpaaGreatDoorW.PrintMore Go.Proofs.YtelfmddcjlocpaaGreatDoor.Num Go.Proofs.YtelfmddcjlocpaaGreatDoor.PLib Go.Proofs.YtelfmddcjlocpaaGreatDoor.Ref Go.Proofs.YtelfmddcjlocpaaGreatDoor.GTh Go.Proofs.YtelfmddcjlocpaaGreatDoor.Given Go.Proofs.YtelfmddcjlocpaaGreatDoor.RnAll Go.Proofs.YtelfmddcjlocpaaGreatDoor.RnL Go.Proofs.YtelfmddcjlocpaaGreatDoor.RnN Go.Proofs.YtelfmddcjlocpaaGreatDoor.BinLaw Go.Proofs.YtelfmddcjlocpaaGreatDoor.Fm8 Go.Proofs.YtelfmddcjlocpaaGreatDoor.Rnd
theorem rp_twin {a : Bool} {l : List Int} {e : Int} (h : l.length ≤ 17592186044416) : gnomonref05_Twin.f a l e = some (a, l, e) := by
 unfold gnomonref05_Twin.f gnomonref01_Twin.f
 rw [if_pos (by omega)]; rfl
theorem law_twin {w : World} {t : El} (ok : Ok w t) : gnomonlaw08_twin.f t.kd t.fm t.na t.la t.ea t.nb t.lb t.eb (t.wd : Int) = some (t.kd, t.fm, t.na, t.la, t.ea, t.nb, t.lb, t.eb, (t.wd : Int)) := by
 unfold gnomonlaw08_twin.f
 rw [rp_twin ok.sa, Option.bind_some, rp_twin ok.sb]; rfl
theorem plays1_ev (t : El) (w : World) (ok : Ok w t) (h : t.kd = 1) : Ev (fun k => gnomonlaw08_plays.f k t.kd t.fm t.na t.la t.ea t.nb t.lb t.eb (t.wd : Int)) true := by
 obtain ⟨r, e, e1, e2⟩ := rn_nearest t.fm t.na t.la ok.wa t.ea
 unfold gnomonlaw08_plays.f
 refine Ev.bind (rn_ev (law_twin ok)) (Ev.congr (fun k => if_pos h) (Ev.bind e1 (Ev.bind e2 (Ev.congr (fun k => if_pos rfl) ?_))))
 rw [beq_self_eq_true]; exact Ev.now _
end Go.Proofs.YtelfmddcjlocpaaGreatDoor.RnP
end
section
namespace Go.Proofs.YtelfmddcjlocpaaGreatDoor.RnScrW
open Go Go.RowKit Go.Proofs.YtelfmddcjlocpaaGreatDoorW.PrintWords Go.Proofs.YtelfmddcjlocpaaGreatDoorW.PrintMore Go.Proofs.YtelfmddcjlocpaaGreatDoorW.PrintLast Go.Proofs.YtelfmddcjlocpaaGreatDoor.GBase Go.Proofs.YtelfmddcjlocpaaGreatDoor.RnAll Go.Proofs.YtelfmddcjlocpaaGreatDoor.Px Go.Proofs.YtelfmddcjlocpaaGreatDoor.PLib
theorem plays_at {kd : Int} (hp : ∀ (t : El) (w : World), Ok w t → t.kd = kd → Ev (fun k => gnomonlaw08_plays.f k t.kd t.fm t.na t.la t.ea t.nb t.lb t.eb (t.wd : Int)) true) : PlaysOk kd kd := by
 intro t w gw ok h1 h2
 obtain ⟨n, hn⟩ := (hp t w ok (by omega)).rounds
 exact run_t (gnomonlaw08_plays.c hn) gw (.cons ⟨[_, _, _, _, _, _, _, _, _], rfl, .cons rfl (.cons rfl (.cons rfl (.cons ok.ra (.cons rfl (.cons rfl (.cons ok.rb (.cons rfl (.cons rfl .nil))))))))⟩ .nil)
end Go.Proofs.YtelfmddcjlocpaaGreatDoor.RnScrW
end
section
namespace Go.Proofs.YtelfmddcjlocpaaGreatDoor.PRfz
open Go.RowKit Go.Proofs.YtelfmddcjlocpaaGreatDoorW.PrintWords Go.Proofs.YtelfmddcjlocpaaGreatDoorW.PrintLast Go.Proofs.YtelfmddcjlocpaaGreatDoorW.PrintMore Go.Proofs.YtelfmddcjlocpaaGreatDoor.Given Go.Proofs.YtelfmddcjlocpaaGreatDoor.GTab
attribute [local go_sem] max2_int min2_int max_two min_two max_three min_three max_four min_four   -- for this text's walks alone
set_option linter.unusedVariables false
set_option linter.unusedSimpArgs false
def errW : Option Int → Value
 | none => .nilIface
 | some c => .iface 0 (.int .i64 c)
theorem errW_none : errW none = .nilIface := rfl
theorem errW_some (c : Int) : errW (some c) = .iface 0 (.int .i64 c) := rfl
theorem info29 : (Tryz.prog.info? 29).map (fun i => (i.zero, i.size, i.bytes)) = some (some (.int .u64 0), 1, 8) := by kernel_rfl
theorem info185 : (Tryz.prog.info? 185).map (fun i => (i.zero, i.size, i.bytes)) = some (some (.int .u32 0), 1, 4) := by kernel_rfl
end Go.Proofs.YtelfmddcjlocpaaGreatDoor.PRfz
end
