/- Functions of the program as plain Lean functions (definitions as the print's), and that the machine's calls do what they do (contracts 'X.c', by Px). Condition: math/bits' table is laid. The order of dyadics as the order of their values; Decide; calls on given numbers. Plain Lean over the printed functions. Conditions: numbers in form. -/
import Derived.Test.YtelfmddcjlocpaaDoorKAcceptMiddlesPxBr
import Derived.Test.YtelfmddcjlocpaaDoorKAcceptMiddlesPxGiven
import Derived.Test.YtelfmddcjlocpaaDoorProg
import Derived.Test.YtelfmddcjlocpaaDoorKAcceptMiddlesGiven
import Derived.Below
import Derived.Deep.Draws
import Derived.Deep.AppendLies
import Derived.Maps.AppendAt
import Derived.OwnWalk
import Derived.Laws.BytesArg
import Derived.Laws.MakeOwn
import Derived.Laws.OwnMore
import Derived.Deep.OwnRows
import Derived.Tactics
import Derived.Lib.ConvBytes
import Derived.Laws.Slices
import Derived.WalkKit
import Derived.KernelRfl
import Derived.RowKit3
import Derived.Deep.LoopGhost
import Derived.Deep.QuietTactic
import Derived.BigQuiet
import Derived.WideLaws
import Derived.Deep.DeepCutAuto
import Derived.Deep.CutBlock
import Derived.Deep.RegionHeld3
import Derived.Laws.Rows
import Derived.Lib.AppendStr
import Derived.ArgAppend
import Derived.Laws.IdiomCopy
import Derived.OrdersHeld
import Derived.Laws.BitsLemmas
import Derived.RowKit
import Derived.Test.YtelfmddcjlocpaaDoorKAcceptMiddlesWWords
import Derived.Test.YtelfmddcjlocpaaDoorKAcceptMiddlesBl
import Derived.Test.YtelfmddcjlocpaaDoorKAcceptMiddlesWInv
import Derived.Laws.StructEq
import Derived.Laws.CopyOwn
import Derived.Test.YtelfmddcjlocpaaDoorKAcceptMiddlesPxL1
import Derived.Test.YtelfmddcjlocpaaDoorKAcceptMiddlesRp3
import Derived.Test.YtelfmddcjlocpaaDoorKAcceptMiddlesPxL0
section
set_option linter.unusedVariables false
namespace Go.Proofs.YtelfmddcjlocpaaDoor.PLib
open Go Go.RowKit Go.Proofs.YtelfmddcjlocpaaDoorW.PrintWords Go.Proofs.YtelfmddcjlocpaaDoorW.PrintMore Go.Proofs.YtelfmddcjlocpaaDoor.Given Go.Proofs.YtelfmddcjlocpaaDoor.Px
def binary_Mid.f (k : Nat) (a0 : Int) (a1 : Int) : Option (Bool × List Int × Int × Int) := (binary_finite.f k a0 a1).bind fun bt500 => (if bt500.2.2.2.2.2.2 = 0 then ((binary_shape_parts.f bt500.1 bt500.2.1 bt500.2.2.1 bt500.2.2.2.1 bt500.2.2.2.2.2.1).bind fun bt508 => ((binary_number.f k bt500.2.2.2.2.1 (IntKind.u64.wrap ((IntKind.u64.wrap (2 * bt508.1)) + 1)) (wrap64 (bt508.2 - 1))).bind fun bt510 => (some (bt510.1, bt510.2.1, bt510.2.2.1, bt510.2.2.2)))) else (some (false, ([] : List Int), 0, bt500.2.2.2.2.2.2)))
theorem binary_Mid.c {k : Nat} {a0 : Int} {a1 : Int} {r : Bool × List Int × Int × Int} (h : binary_Mid.f k a0 a1 = some r) : Con Tryd.prog Gw 25 [.s (.i .i64 a0), .s (.i .u64 a1)] (· = .tu [.ag [.b r.1, .sl .u64 r.2.1, .i .i64 r.2.2.1], .s (.i .i64 r.2.2.2)]) := by
 unfold binary_Mid.f at h
 obtain ⟨bt500, A1, h⟩ := bnd h
 rcases ite_e h with ⟨c2, h⟩ | ⟨c2, h⟩
 ·obtain ⟨bt508, A3, h⟩ := bnd h
  obtain ⟨bt510, A4, h⟩ := bnd h
  have h := si h; subst h
  exact pth Tryd.func25 [.r (.tu [.ag [.i .i64 bt500.1, .i .i64 bt500.2.1, .i .i64 bt500.2.2.1, .i .u64 bt500.2.2.2.1], .s (.b bt500.2.2.2.2.1), .s (.i .u64 bt500.2.2.2.2.2.1), .s (.i .i64 bt500.2.2.2.2.2.2)]), .br false, .r (.tu [.s (.i .u64 bt508.1), .s (.i .i64 bt508.2)]), .r (.tu [.ag [.b bt510.1, .sl .u64 bt510.2.1, .i .i64 bt510.2.2.1], .s (.i .i64 bt510.2.2.2)])] (fun e => ai (binary_finite.c A1) (ai (n0 c2) (ai (binary_shape_parts.c A3) (ai (binary_number.c A4) e)))) (by kernel_rfl)
 ·have h := si h; subst h
  exact pth Tryd.func25 [.r (.tu [.ag [.i .i64 bt500.1, .i .i64 bt500.2.1, .i .i64 bt500.2.2.1, .i .u64 bt500.2.2.2.1], .s (.b bt500.2.2.2.2.1), .s (.i .u64 bt500.2.2.2.2.2.1), .s (.i .i64 bt500.2.2.2.2.2.2)]), .br true] (fun e => ai (binary_finite.c A1) (ai (n1 c2) e)) (by kernel_rfl)
end Go.Proofs.YtelfmddcjlocpaaDoor.PLib
end
section
namespace Go.Proofs.YtelfmddcjlocpaaDoor.Rp4
open Go.RowKit Go.Proofs.YtelfmddcjlocpaaDoorW.PrintWords Go.Proofs.YtelfmddcjlocpaaDoorW.PrintMore Go.Proofs.YtelfmddcjlocpaaDoor.Num Go.Proofs.YtelfmddcjlocpaaDoor.PLib Go.Proofs.YtelfmddcjlocpaaDoor.Ref Go.Proofs.YtelfmddcjlocpaaDoor.GTh Go.Proofs.YtelfmddcjlocpaaDoor.Given Go.Proofs.YtelfmddcjlocpaaDoor.Rp1 Go.Proofs.YtelfmddcjlocpaaDoor.Rp2 Go.Proofs.YtelfmddcjlocpaaDoor.Rp3 Go.Proofs.YtelfmddcjlocpaaDoor.BinLaw Go.Proofs.YtelfmddcjlocpaaDoor.Fm8 Go.Proofs.YtelfmddcjlocpaaDoor.Rnd
def vs (neg : Bool) (m : Nat) (x E : Int) : Int := if neg then -((m * 2^(x - E).toNat : Nat) : Int) else ((m * 2^(x - E).toNat : Nat) : Int)
def pv (F : Fmt) (g : Nat) (V : Int) : Nat := if V = 0 then 0 else pat F (decide (V < 0)) (rsz F g V.natAbs)
theorem rnd_pv (F : Fmt) {neg : Bool} {m : Nat} {x E : Int} (h : Dk neg m x) : rnd F neg m x E = pv F (F.low - E).toNat (vs neg m x E) := by
 unfold rnd pv vs
 have p1 := Nat.two_pow_pos (x - E).toNat
 by_cases c : m = 0
 ·obtain ⟨rfl, _⟩ := h.zero c
  rw [if_pos c, c]; simp
 ·have z1 : m * 2^(x - E).toNat ≠ 0 := Nat.mul_ne_zero c (by omega)
  generalize m * 2^(x - E).toNat = a at *
  rw [if_neg c]
  cases neg
  ·simp only [Bool.false_eq_true, if_false]
   rw [if_neg (show ¬ ((a : Nat) : Int) = 0 by omega), decide_eq_false (show ¬ ((a : Nat) : Int) < 0 by omega), Int.natAbs_natCast]
  ·simp only [if_true]
   rw [if_neg (show ¬ -((a : Nat) : Int) = 0 by omega), decide_eq_true (show -((a : Nat) : Int) < 0 by omega), Int.natAbs_neg, Int.natAbs_natCast]
end Go.Proofs.YtelfmddcjlocpaaDoor.Rp4
end
