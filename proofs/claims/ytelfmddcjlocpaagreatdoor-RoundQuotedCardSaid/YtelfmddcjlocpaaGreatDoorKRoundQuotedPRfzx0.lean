/- Printed functions' contracts as contracts of Px. Condition: math/bits' table is laid. Functions of the program as plain Lean functions (definitions as the print's), and that the machine's calls do what they do (contracts 'X.c', by Px). Condition: math/bits' table is laid. -/
import Derived.Test.YtelfmddcjlocpaaGreatDoorKRoundQuotedGivenD
import Derived.Test.YtelfmddcjlocpaaGreatDoorKRoundQuotedPRefx0
import Derived.Test.YtelfmddcjlocpaaGreatDoorKRoundQuotedPRefx1
import Derived.Test.YtelfmddcjlocpaaGreatDoorKRoundQuotedPRefx2
import Derived.Test.YtelfmddcjlocpaaGreatDoorKRoundQuotedPRefx3
import Derived.Test.YtelfmddcjlocpaaGreatDoorKRoundQuotedPRefx4
import Derived.Test.YtelfmddcjlocpaaGreatDoorKRoundQuotedPxL0
import Derived.Test.YtelfmddcjlocpaaGreatDoorKRoundQuotedPxL1
import Derived.Test.YtelfmddcjlocpaaGreatDoorKRoundQuotedPxA
import Derived.Laws.CopyOwn
import Derived.Laws.MakeOwn
import Derived.Test.YtelfmddcjlocpaaGreatDoorProg
import Derived.Test.YtelfmddcjlocpaaGreatDoorKRoundQuotedPxTz
import Derived.Below
import Derived.Deep.Draws
import Derived.Deep.AppendLies
import Derived.Maps.AppendAt
import Derived.OwnWalk
import Derived.Laws.BytesArg
import Derived.Laws.OwnMore
import Derived.Deep.OwnRows
import Derived.Tactics
import Derived.Lib.ConvBytes
import Derived.Laws.Slices
import Derived.WalkKit
import Derived.KernelRfl
import Derived.RowKit3
import Derived.Deep.LoopGhost
import Derived.Deep.QuietTactic
import Derived.BigQuiet
import Derived.WideLaws
import Derived.Deep.DeepCutAuto
import Derived.Deep.CutBlock
import Derived.Deep.RegionHeld3
import Derived.Laws.Rows
import Derived.Lib.AppendStr
import Derived.ArgAppend
import Derived.Laws.IdiomCopy
import Derived.OrdersHeld
import Derived.Laws.BitsLemmas
import Derived.RowKit
import Derived.Test.YtelfmddcjlocpaaGreatDoorKRoundQuotedWWords
import Derived.Test.YtelfmddcjlocpaaGreatDoorKRoundQuotedWLast
import Derived.Test.YtelfmddcjlocpaaGreatDoorKRoundQuotedWTab
import Derived.Test.YtelfmddcjlocpaaGreatDoorKRoundQuotedBl
import Derived.Test.YtelfmddcjlocpaaGreatDoorKRoundQuotedPLenx1
import Derived.Laws.StructEq
section
set_option linter.unusedVariables false
namespace Go.Proofs.YtelfmddcjlocpaaGreatDoor.PRef
open Go Go.RowKit Go.Proofs.YtelfmddcjlocpaaGreatDoorW.PrintWords Go.Proofs.YtelfmddcjlocpaaGreatDoorW.PrintMore Go.Proofs.YtelfmddcjlocpaaGreatDoor.Px
theorem gnomonref01_Norm.c {k : Nat} {l0 : List Int} {r : List Int} (h : gnomonref01_Norm.f k l0 = some r) : Con Tryz.prog Gw 160 [.s (.sl .u32 l0)] (· = .s (.sl .u32 r)) := by
 refine brg Tryz.func160 (by kernel_rfl) fun w S vs gw hS vs_ => ?_
 obtain ⟨A0, c0, u0, rfl, hc0, hr0, v0⟩ := a_sl vs_
 obtain rfl := a_nil v0
 exact (gnomonref01_Norm.calls k A0 c0 l0 r w hr0 hc0 h).mono fun e w' ⟨v0_, he, hR_v0_, hb⟩ => ⟨_, _, he, rfl, ofR hR_v0_ hS, hb⟩
theorem gnomonref01_Word.c {k : Nat} {a0 : Int} {r : List Int} (h : gnomonref01_Word.f k a0 = some r) : Con Tryz.prog Gw 134 [.s (.i .u64 a0)] (· = .s (.sl .u32 r)) := by
 refine brg Tryz.func134 (by kernel_rfl) fun w S vs gw hS vs_ => ?_
 obtain ⟨u0, rfl, v0⟩ := a_i vs_
 obtain rfl := a_nil v0
 exact (gnomonref01_Word.calls k a0 r w h).mono fun e w' ⟨v0_, he, hR_v0_, hb⟩ => ⟨_, _, he, rfl, ofR hR_v0_ hS, hb⟩
theorem gnomonref01_Shl.c {k : Nat} {l0 : List Int} {a1 : Int} {r : List Int} (h : gnomonref01_Shl.f k l0 a1 = some r) : Con Tryz.prog Gw 169 [.s (.sl .u32 l0), .s (.i .i64 a1)] (· = .s (.sl .u32 r)) := by
 refine brg Tryz.func169 (by kernel_rfl) fun w S vs gw hS vs_ => ?_
 obtain ⟨A0, c0, u0, rfl, hc0, hr0, v0⟩ := a_sl vs_
 obtain ⟨u1, rfl, v1⟩ := a_i v0
 obtain rfl := a_nil v1
 exact (gnomonref01_Shl.calls k A0 c0 l0 a1 r w hr0 hc0 h).mono fun e w' ⟨v0_, he, hR_v0_, hb⟩ => ⟨_, _, he, rfl, ofR hR_v0_ hS, hb⟩
theorem gnomonref01_Bits.c {k : Nat} {l0 : List Int} {r : Int} (h : gnomonref01_Bits.f k l0 = some r) : Con Tryz.prog Gw 184 [.s (.sl .u32 l0)] (· = .s (.i .i64 r)) := by
 refine brg Tryz.func184 (by kernel_rfl) fun w S vs gw hS vs_ => ?_
 obtain ⟨A0, c0, u0, rfl, hc0, hr0, v0⟩ := a_sl vs_
 obtain rfl := a_nil v0
 exact (gnomonref01_Bits.calls k A0 c0 l0 r w hr0 hc0 h).mono fun e w' ⟨he, hb⟩ => ⟨_, _, he, rfl, rfl, hb.below⟩
theorem gnomonref01_Shr.c {k : Nat} {l0 : List Int} {a1 : Int} {r : List Int} (h : gnomonref01_Shr.f k l0 a1 = some r) : Con Tryz.prog Gw 129 [.s (.sl .u32 l0), .s (.i .i64 a1)] (· = .s (.sl .u32 r)) := by
 refine brg Tryz.func129 (by kernel_rfl) fun w S vs gw hS vs_ => ?_
 obtain ⟨A0, c0, u0, rfl, hc0, hr0, v0⟩ := a_sl vs_
 obtain ⟨u1, rfl, v1⟩ := a_i v0
 obtain rfl := a_nil v1
 exact (gnomonref01_Shr.calls k A0 c0 l0 a1 r w hr0 hc0 h).mono fun e w' ⟨v0_, he, hR_v0_, hb⟩ => ⟨_, _, he, rfl, ofR hR_v0_ hS, hb⟩
theorem gnomonref01_Add.c {k : Nat} {l0 : List Int} {l1 : List Int} {r : List Int} (h : gnomonref01_Add.f k l0 l1 = some r) : Con Tryz.prog Gw 133 [.s (.sl .u32 l0), .s (.sl .u32 l1)] (· = .s (.sl .u32 r)) := by
 refine brg Tryz.func133 (by kernel_rfl) fun w S vs gw hS vs_ => ?_
 obtain ⟨A0, c0, u0, rfl, hc0, hr0, v0⟩ := a_sl vs_
 obtain ⟨A1, c1, u1, rfl, hc1, hr1, v1⟩ := a_sl v0
 obtain rfl := a_nil v1
 exact (gnomonref01_Add.calls k A0 c0 l0 A1 c1 l1 r w hr0 hc0 hr1 hc1 h).mono fun e w' ⟨v0_, he, hR_v0_, hb⟩ => ⟨_, _, he, rfl, ofR hR_v0_ hS, hb⟩
theorem gnomonref01_Cmp.c {k : Nat} {l0 : List Int} {l1 : List Int} {r : Int} (h : gnomonref01_Cmp.f k l0 l1 = some r) : Con Tryz.prog Gw 167 [.s (.sl .u32 l0), .s (.sl .u32 l1)] (· = .s (.i .i64 r)) := by
 refine brg Tryz.func167 (by kernel_rfl) fun w S vs gw hS vs_ => ?_
 obtain ⟨A0, c0, u0, rfl, hc0, hr0, v0⟩ := a_sl vs_
 obtain ⟨A1, c1, u1, rfl, hc1, hr1, v1⟩ := a_sl v0
 obtain rfl := a_nil v1
 exact (gnomonref01_Cmp.calls k A0 c0 l0 A1 c1 l1 r w hr0 hc0 hr1 hc1 h).mono fun e w' ⟨he, hb⟩ => ⟨_, _, he, rfl, rfl, hb.below⟩
theorem gnomonref01_Mul.c {k : Nat} {l0 : List Int} {l1 : List Int} {r : List Int} (h : gnomonref01_Mul.f k l0 l1 = some r) : Con Tryz.prog Gw 181 [.s (.sl .u32 l0), .s (.sl .u32 l1)] (· = .s (.sl .u32 r)) := by
 refine brg Tryz.func181 (by kernel_rfl) fun w S vs gw hS vs_ => ?_
 obtain ⟨A0, c0, u0, rfl, hc0, hr0, v0⟩ := a_sl vs_
 obtain ⟨A1, c1, u1, rfl, hc1, hr1, v1⟩ := a_sl v0
 obtain rfl := a_nil v1
 exact (gnomonref01_Mul.calls k A0 c0 l0 A1 c1 l1 r w hr0 hc0 hr1 hc1 h).mono fun e w' ⟨v0_, he, hR_v0_, hb⟩ => ⟨_, _, he, rfl, ofR hR_v0_ hS, hb⟩
theorem gnomonref01_From.c {k : Nat} {l0 : List Int} {r : List Int} (h : gnomonref01_From.f k l0 = some r) : Con Tryz.prog Gw 132 [.s (.sl .u64 l0)] (· = .s (.sl .u32 r)) := by
 refine brg Tryz.func132 (by kernel_rfl) fun w S vs gw hS vs_ => ?_
 obtain ⟨A0, c0, u0, rfl, hc0, hr0, v0⟩ := a_sl vs_
 obtain rfl := a_nil v0
 exact (gnomonref01_From.calls k A0 c0 l0 r w hr0 hc0 h).mono fun e w' ⟨v0_, he, hR_v0_, hb⟩ => ⟨_, _, he, rfl, ofR hR_v0_ hS, hb⟩
end Go.Proofs.YtelfmddcjlocpaaGreatDoor.PRef
end
section
set_option linter.unusedVariables false
namespace Go.Proofs.YtelfmddcjlocpaaGreatDoor.PLib
open Go Go.RowKit Go.Proofs.YtelfmddcjlocpaaGreatDoorW.PrintWords Go.Proofs.YtelfmddcjlocpaaGreatDoorW.PrintMore Go.Proofs.YtelfmddcjlocpaaGreatDoor.Given Go.Proofs.YtelfmddcjlocpaaGreatDoor.Px Go.Proofs.YtelfmddcjlocpaaGreatDoor.PRef
def gnomonref07_Parts.f (a0_0 : Int) (a0_1 : Int) (a0_2 : Int) (a0_3 : Int) (a0_4 : Int) (a0_5 : Int) (a1 : Int) : Option (Int × Int) := if 0 ≤ wrap64 (a0_1 - 1) then (if shl .u64 1 (wrap64 (a0_1 - 1)) = 0 then (none) else (if (IntKind.u64.wrap (Int.tdiv a1 (shl .u64 1 (wrap64 (a0_1 - 1))))) = 0 then (some (Int.tmod a1 (shl .u64 1 (wrap64 (a0_1 - 1))), a0_2)) else (some (IntKind.u64.wrap ((shl .u64 1 (wrap64 (a0_1 - 1))) + (Int.tmod a1 (shl .u64 1 (wrap64 (a0_1 - 1))))), wrap64 ((wrap64 (a0_2 + (wrap64 (IntKind.u64.wrap (Int.tdiv a1 (shl .u64 1 (wrap64 (a0_1 - 1)))))))) - 1))))) else (none)
theorem gnomonref07_Parts.c {a0_0 : Int} {a0_1 : Int} {a0_2 : Int} {a0_3 : Int} {a0_4 : Int} {a0_5 : Int} {a1 : Int} {r : Int × Int} (h : gnomonref07_Parts.f a0_0 a0_1 a0_2 a0_3 a0_4 a0_5 a1 = some r) : Con Tryz.prog Gw 155 [.ag [.i .u64 a0_0, .i .i64 a0_1, .i .i64 a0_2, .i .i64 a0_3, .i .u64 a0_4, .i .u64 a0_5], .s (.i .u64 a1)] (· = .tu [.s (.i .u64 r.1), .s (.i .i64 r.2)]) := by
 unfold gnomonref07_Parts.f at h
 rcases ite_e h with ⟨c1, h⟩ | ⟨c1, h⟩
 ·rcases ite_e h with ⟨c2, h⟩ | ⟨c2, h⟩
  ·cases h
  ·rcases ite_e h with ⟨c3, h⟩ | ⟨c3, h⟩
   ·have h := si h; subst h
    exact pth Tryz.func155 [.br true] (fun e => ai c1 (ai c2 (ai c2 (ai (q1 c3) e)))) (by kernel_rfl)
   ·have h := si h; subst h
    exact pth Tryz.func155 [.br false] (fun e => ai c1 (ai c2 (ai c2 (ai (q0 c3) e)))) (by kernel_rfl)
 ·cases h
def gnomonref08_order.f (k : Nat) (l0 : List Int) (a1 : Int) (l2 : List Int) (a3 : Int) : Option (Int) := (gnomonref01_Bits.f k l0).bind fun t1 => ((gnomonref01_Bits.f k l2).bind fun t2 => (if wrap64 (t1 + a1) < wrap64 (t2 + a3) then (some (-1)) else (if wrap64 (t1 + a1) > wrap64 (t2 + a3) then (some 1) else ((gnomonref01_Shl.f k l0 (wrap64 (a1 - (mn a1 a3)))).bind fun t3 => ((gnomonref01_Shl.f k l2 (wrap64 (a3 - (mn a1 a3)))).bind fun t4 => ((gnomonref01_Cmp.f k t3 t4).bind fun t5 => (some t5)))))))
theorem gnomonref08_order.mono : ∀ a0 a1 a2 a3 k, LeO (gnomonref08_order.f k a0 a1 a2 a3) (gnomonref08_order.f (k + 1) a0 a1 a2 a3) := by
 intro a0 a1 a2 a3 k
 unfold gnomonref08_order.f
 repeat' first
  | (with_reducible exact gnomonref01_Bits.mono _ _)
  | (with_reducible exact gnomonref01_Cmp.mono _ _ _)
  | (with_reducible exact gnomonref01_Shl.mono _ _ _)
  | (with_reducible exact LeO.refl _)
  | (with_reducible exact LeO.none _)
  | (with_reducible refine LeO.ite ?_ ?_)
  | (with_reducible refine LeO.bind ?_ (fun _ => ?_))
theorem gnomonref08_order.c {k : Nat} {l0 : List Int} {a1 : Int} {l2 : List Int} {a3 : Int} {r : Int} (h : gnomonref08_order.f k l0 a1 l2 a3 = some r) : Con Tryz.prog Gw 182 [.s (.sl .u32 l0), .s (.i .i64 a1), .s (.sl .u32 l2), .s (.i .i64 a3)] (· = .s (.i .i64 r)) := by
 unfold gnomonref08_order.f at h
 obtain ⟨t1, A1, h⟩ := bnd h
 obtain ⟨t2, A2, h⟩ := bnd h
 rcases ite_e h with ⟨c3, h⟩ | ⟨c3, h⟩
 ·have h := si h; subst h
  exact pth Tryz.func182 [.r (.s (.i .i64 t1)), .r (.s (.i .i64 t2)), .br true] (fun e => ai (gnomonref01_Bits.c A1) (ai (gnomonref01_Bits.c A2) (ai (d1 c3) e))) (by kernel_rfl)
 ·rcases ite_e h with ⟨c4, h⟩ | ⟨c4, h⟩
  ·have h := si h; subst h
   exact pth Tryz.func182 [.r (.s (.i .i64 t1)), .r (.s (.i .i64 t2)), .br false, .br true] (fun e => ai (gnomonref01_Bits.c A1) (ai (gnomonref01_Bits.c A2) (ai (d0 c3) (ai (d1 c4) e)))) (by kernel_rfl)
  ·obtain ⟨t3, A5, h⟩ := bnd h
   obtain ⟨t4, A6, h⟩ := bnd h
   obtain ⟨t5, A7, h⟩ := bnd h
   have h := si h; subst h
   exact pth Tryz.func182 [.r (.s (.i .i64 t1)), .r (.s (.i .i64 t2)), .br false, .br false, .r (.s (.sl .u32 t3)), .r (.s (.sl .u32 t4)), .r (.s (.i .i64 t5))] (fun e => ai (gnomonref01_Bits.c A1) (ai (gnomonref01_Bits.c A2) (ai (d0 c3) (ai (d0 c4) (ai (gnomonref01_Shl.c A5) (ai (gnomonref01_Shl.c A6) (ai (gnomonref01_Cmp.c A7) e))))))) (by kernel_rfl)
def gnomonref08_Hold.f (k : Nat) (l0_0 : List Int) (l0_1 : List Int) (a0_2 : Int) (a0_3 : Bool) (l1 : List Int) (a2 : Int) : Option (Int) := if (l1.length : Int) = 0 then (some (-1)) else (if a0_3 = true then ((gnomonref01_Mul.f k l1 l1).bind fun t1 => ((gnomonref01_Mul.f k t1 l0_1).bind fun t2 => ((gnomonref08_order.f k t2 (wrap64 (2 * a2)) l0_0 a0_2).bind fun t3 => (some t3)))) else ((gnomonref01_Mul.f k l1 l0_1).bind fun t4 => ((gnomonref08_order.f k t4 a2 l0_0 a0_2).bind fun t5 => (some t5))))
theorem gnomonref08_Hold.mono : ∀ a0 a1 a2 a3 a4 a5 k, LeO (gnomonref08_Hold.f k a0 a1 a2 a3 a4 a5) (gnomonref08_Hold.f (k + 1) a0 a1 a2 a3 a4 a5) := by
 intro a0 a1 a2 a3 a4 a5 k
 unfold gnomonref08_Hold.f
 repeat' first
  | (with_reducible exact gnomonref01_Mul.mono _ _ _)
  | (with_reducible exact gnomonref08_order.mono _ _ _ _ _)
  | (with_reducible exact LeO.refl _)
  | (with_reducible exact LeO.none _)
  | (with_reducible refine LeO.ite ?_ ?_)
  | (with_reducible refine LeO.bind ?_ (fun _ => ?_))
theorem gnomonref08_Hold.c {k : Nat} {l0_0 : List Int} {l0_1 : List Int} {a0_2 : Int} {a0_3 : Bool} {l1 : List Int} {a2 : Int} {r : Int} (h : gnomonref08_Hold.f k l0_0 l0_1 a0_2 a0_3 l1 a2 = some r) : Con Tryz.prog Gw 171 [.ag [.sl .u32 l0_0, .sl .u32 l0_1, .i .i64 a0_2, .b a0_3], .s (.sl .u32 l1), .s (.i .i64 a2)] (· = .s (.i .i64 r)) := by
 unfold gnomonref08_Hold.f at h
 rcases ite_e h with ⟨c1, h⟩ | ⟨c1, h⟩
 ·have h := si h; subst h
  exact pth Tryz.func171 [.br true] (fun e => ai (q1 c1) e) (by kernel_rfl)
 ·rcases ite_e h with ⟨c2, h⟩ | ⟨c2, h⟩
  ·obtain ⟨t1, A3, h⟩ := bnd h
   obtain ⟨t2, A4, h⟩ := bnd h
   obtain ⟨t3, A5, h⟩ := bnd h
   have h := si h; subst h
   exact pth Tryz.func171 [.br false, .br true, .r (.s (.sl .u32 t1)), .r (.s (.sl .u32 t2)), .r (.s (.i .i64 t3))] (fun e => ai (q0 c1) (ai c2 (ai (gnomonref01_Mul.c A3) (ai (gnomonref01_Mul.c A4) (ai (gnomonref08_order.c A5) e))))) (by kernel_rfl)
  ·obtain ⟨t4, A6, h⟩ := bnd h
   obtain ⟨t5, A7, h⟩ := bnd h
   have h := si h; subst h
   exact pth Tryz.func171 [.br false, .br false, .r (.s (.sl .u32 t4)), .r (.s (.i .i64 t5))] (fun e => ai (q0 c1) (ai (z0 c2) (ai (gnomonref01_Mul.c A6) (ai (gnomonref08_order.c A7) e)))) (by kernel_rfl)
def gnomonref08_Size.l0 : Nat → Int → Int → Int → Int → Int → Int → Int → Int → List Int → List Int → Int → Bool → Option (Int)
 | 0, _, _, _, _, _, _, _, _, _, _, _, _ => none
 | k + 1, x5, x6, x1000, x1001, x1002, x1003, x1004, x1005, x2000, x2001, x2002, x2003 => if IntKind.u64.wrap (x6 - x5) > 1 then ((gnomonref07_Parts.f x1000 x1001 x1002 x1003 x1004 x1005 (IntKind.u64.wrap (x5 + (IntKind.u64.wrap (Int.tdiv (IntKind.u64.wrap (x6 - x5)) 2))))).bind fun bt1 => ((gnomonref01_Word.f k bt1.1).bind fun t2 => ((gnomonref08_Hold.f k x2000 x2001 x2002 x2003 t2 bt1.2).bind fun t3 => (if t3 ≤ 0 then (gnomonref08_Size.l0 k (IntKind.u64.wrap (x5 + (IntKind.u64.wrap (Int.tdiv (IntKind.u64.wrap (x6 - x5)) 2)))) x6 x1000 x1001 x1002 x1003 x1004 x1005 x2000 x2001 x2002 x2003) else (gnomonref08_Size.l0 k x5 (IntKind.u64.wrap (x5 + (IntKind.u64.wrap (Int.tdiv (IntKind.u64.wrap (x6 - x5)) 2)))) x1000 x1001 x1002 x1003 x1004 x1005 x2000 x2001 x2002 x2003))))) else (if x5 = x1004 then (some x5) else ((gnomonref07_Parts.f x1000 x1001 x1002 x1003 x1004 x1005 x5).bind fun bt4 => ((gnomonref01_Word.f k bt4.1).bind fun t5 => ((gnomonref01_Shl.f k t5 1).bind fun t6 => ((gnomonref01_Word.f k 1).bind fun t7 => ((gnomonref01_Add.f k t6 t7).bind fun t8 => ((gnomonref08_Hold.f k x2000 x2001 x2002 x2003 t8 (wrap64 (bt4.2 - 1))).bind fun t9 => (if t9 < 0 then (some (IntKind.u64.wrap (x5 + 1))) else (if t9 = 0 then (if Int.tmod x5 2 = 1 then (some (IntKind.u64.wrap (x5 + 1))) else (some x5)) else (some x5))))))))))
def gnomonref08_Size.f (k : Nat) (a0_0 : Int) (a0_1 : Int) (a0_2 : Int) (a0_3 : Int) (a0_4 : Int) (a0_5 : Int) (l1_0 : List Int) (l1_1 : List Int) (a1_2 : Int) (a1_3 : Bool) : Option (Int) := gnomonref08_Size.l0 k 0 (IntKind.u64.wrap (a0_4 + 1)) a0_0 a0_1 a0_2 a0_3 a0_4 a0_5 l1_0 l1_1 a1_2 a1_3
theorem gnomonref08_Size.mono_l : ∀ k, ∀ y0 y1 y2 y3 y4 y5 y6 y7 y8 y9 y10 y11, LeO (gnomonref08_Size.l0 k y0 y1 y2 y3 y4 y5 y6 y7 y8 y9 y10 y11) (gnomonref08_Size.l0 (k + 1) y0 y1 y2 y3 y4 y5 y6 y7 y8 y9 y10 y11)
 | 0 => fun _ _ _ _ _ _ _ _ _ _ _ _ r h => by simp [gnomonref08_Size.l0] at h
 | k + 1 => by
  have ih0 := gnomonref08_Size.mono_l k
  intro y0 y1 y2 y3 y4 y5 y6 y7 y8 y9 y10 y11
  unfold gnomonref08_Size.l0
  repeat' first
   | (with_reducible exact ih0 _ _ _ _ _ _ _ _ _ _ _ _)
   | (with_reducible exact gnomonref01_Word.mono _ _)
   | (with_reducible exact gnomonref08_Hold.mono _ _ _ _ _ _ _)
   | (with_reducible exact gnomonref01_Shl.mono _ _ _)
   | (with_reducible exact gnomonref01_Add.mono _ _ _)
   | (with_reducible exact LeO.refl _)
   | (with_reducible exact LeO.none _)
   | (with_reducible refine LeO.ite ?_ ?_)
   | (with_reducible refine LeO.bind ?_ (fun _ => ?_))
theorem gnomonref08_Size.mono : ∀ y0 y1 y2 y3 y4 y5 y6 y7 y8 y9 k, LeO (gnomonref08_Size.f k y0 y1 y2 y3 y4 y5 y6 y7 y8 y9) (gnomonref08_Size.f (k + 1) y0 y1 y2 y3 y4 y5 y6 y7 y8 y9) := by
 intro y0 y1 y2 y3 y4 y5 y6 y7 y8 y9 k
 unfold gnomonref08_Size.f
 exact gnomonref08_Size.mono_l k _ _ _ _ _ _ _ _ _ _ _ _
theorem gnomonref08_Size.jc : ∀ k : Nat, (∀ (x5 : Int) (x6 : Int) (x1000 : Int) (x1001 : Int) (x1002 : Int) (x1003 : Int) (x1004 : Int) (x1005 : Int) (x2000 : List Int) (x2001 : List Int) (x2002 : Int) (x2003 : Bool) (r : Int), gnomonref08_Size.l0 k x5 x6 x1000 x1001 x1002 x1003 x1004 x1005 x2000 x2001 x2002 x2003 = some r → Fin Tryz.prog Gw 149 (nav (bodyOf Tryz.f149) [1, 1, 0, 0, 0] []) ⟨mkT 74 [(2, .s (.lo 0 0)), (3, .s (.lo 1 0)), (5, .s (.i .u64 x5)), (6, .s (.i .u64 x6))], [some (135, [.i .u64 x1000, .i .i64 x1001, .i .i64 x1002, .i .i64 x1003, .i .u64 x1004, .i .u64 x1005]), some (175, [.sl .u32 x2000, .sl .u32 x2001, .i .i64 x2002, .b x2003])]⟩ (· = .s (.i .u64 r)))
 | 0 => (fun _ _ _ _ _ _ _ _ _ _ _ _ _ h => nn h)
 | k + 1 => by
  have ih := gnomonref08_Size.jc k
  ·intro x5 x6 x1000 x1001 x1002 x1003 x1004 x1005 x2000 x2001 x2002 x2003 r h
   rw [gnomonref08_Size.l0] at h
   rcases ite_e h with ⟨c1, h⟩ | ⟨c1, h⟩
   ·obtain ⟨bt1, A2, h⟩ := bnd h
    obtain ⟨t2, A3, h⟩ := bnd h
    obtain ⟨t3, A4, h⟩ := bnd h
    rcases ite_e h with ⟨c5, h⟩ | ⟨c5, h⟩
    ·exact jth Tryz.func149 [.br true, .r (.tu [.s (.i .u64 bt1.1), .s (.i .i64 bt1.2)]), .r (.s (.sl .u32 t2)), .r (.s (.i .i64 t3)), .br true, .cut 1 [2, 3, 5, 6] [0, 1] []] (fun _ => ai (d1 c1) (ai (by decide : (2 : Int) ≠ 0) (ai (gnomonref07_Parts.c A2) (ai (gnomonref01_Word.c A3) (ai (gnomonref08_Hold.c A4) (ai (d1 c5) (ih _ _ _ _ _ _ _ _ _ _ _ _ _ h))))))) (by kernel_rfl)
    ·exact jth Tryz.func149 [.br true, .r (.tu [.s (.i .u64 bt1.1), .s (.i .i64 bt1.2)]), .r (.s (.sl .u32 t2)), .r (.s (.i .i64 t3)), .br false, .cut 1 [2, 3, 5, 6] [0, 1] []] (fun _ => ai (d1 c1) (ai (by decide : (2 : Int) ≠ 0) (ai (gnomonref07_Parts.c A2) (ai (gnomonref01_Word.c A3) (ai (gnomonref08_Hold.c A4) (ai (d0 c5) (ih _ _ _ _ _ _ _ _ _ _ _ _ _ h))))))) (by kernel_rfl)
   ·rcases ite_e h with ⟨c6, h⟩ | ⟨c6, h⟩
    ·have h := si h; subst h
     exact jth Tryz.func149 [.br false, .br true] (fun e => ai (d0 c1) (ai (q1 c6) e)) (by kernel_rfl)
    ·obtain ⟨bt4, A7, h⟩ := bnd h
     obtain ⟨t5, A8, h⟩ := bnd h
     obtain ⟨t6, A9, h⟩ := bnd h
     obtain ⟨t7, A10, h⟩ := bnd h
     obtain ⟨t8, A11, h⟩ := bnd h
     obtain ⟨t9, A12, h⟩ := bnd h
     rcases ite_e h with ⟨c13, h⟩ | ⟨c13, h⟩
     ·have h := si h; subst h
      exact jth Tryz.func149 [.br false, .br false, .r (.tu [.s (.i .u64 bt4.1), .s (.i .i64 bt4.2)]), .r (.s (.sl .u32 t5)), .r (.s (.sl .u32 t6)), .r (.s (.sl .u32 t7)), .r (.s (.sl .u32 t8)), .r (.s (.i .i64 t9)), .br true, .br true, .br true, .br true, .br true, .br true] (fun e => ai (d0 c1) (ai (q0 c6) (ai (gnomonref07_Parts.c A7) (ai (gnomonref01_Word.c A8) (ai (gnomonref01_Shl.c A9) (ai (gnomonref01_Word.c A10) (ai (gnomonref01_Add.c A11) (ai (gnomonref08_Hold.c A12) (ai (d1 c13) (ai (d1 c13) (ai (d1 c13) (ai (d1 c13) (ai (d1 c13) (ai tt e)))))))))))))) (by kernel_rfl)
     ·rcases ite_e h with ⟨c14, h⟩ | ⟨c14, h⟩
      ·rcases ite_e h with ⟨c15, h⟩ | ⟨c15, h⟩
       ·have h := si h; subst h
        exact jth Tryz.func149 [.br false, .br false, .r (.tu [.s (.i .u64 bt4.1), .s (.i .i64 bt4.2)]), .r (.s (.sl .u32 t5)), .r (.s (.sl .u32 t6)), .r (.s (.sl .u32 t7)), .r (.s (.sl .u32 t8)), .r (.s (.i .i64 t9)), .br false, .br false, .br false, .br true, .br true, .br true, .br false, .br true, .br false, .br true] (fun e => ai (d0 c1) (ai (q0 c6) (ai (gnomonref07_Parts.c A7) (ai (gnomonref01_Word.c A8) (ai (gnomonref01_Shl.c A9) (ai (gnomonref01_Word.c A10) (ai (gnomonref01_Add.c A11) (ai (gnomonref08_Hold.c A12) (ai (d0 c13) (ai (d0 c13) (ai (d0 c13) (ai (q1 c14) (ai (q1 c14) (ai (by decide : (2 : Int) ≠ 0) (ai (q1 c14) (ai (d0 c13) (ai (q1 c14) (ai (d0 c13) (ai (q1 c15) e))))))))))))))))))) (by kernel_rfl)
       ·have h := si h; subst h
        exact jth Tryz.func149 [.br false, .br false, .r (.tu [.s (.i .u64 bt4.1), .s (.i .i64 bt4.2)]), .r (.s (.sl .u32 t5)), .r (.s (.sl .u32 t6)), .r (.s (.sl .u32 t7)), .r (.s (.sl .u32 t8)), .r (.s (.i .i64 t9)), .br false, .br false, .br false, .br true, .br true, .br true, .br false, .br true, .br false, .br false] (fun e => ai (d0 c1) (ai (q0 c6) (ai (gnomonref07_Parts.c A7) (ai (gnomonref01_Word.c A8) (ai (gnomonref01_Shl.c A9) (ai (gnomonref01_Word.c A10) (ai (gnomonref01_Add.c A11) (ai (gnomonref08_Hold.c A12) (ai (d0 c13) (ai (d0 c13) (ai (d0 c13) (ai (q1 c14) (ai (q1 c14) (ai (by decide : (2 : Int) ≠ 0) (ai (q1 c14) (ai (d0 c13) (ai (q1 c14) (ai (d0 c13) (ai (q0 c15) e))))))))))))))))))) (by kernel_rfl)
      ·have h := si h; subst h
       exact jth Tryz.func149 [.br false, .br false, .r (.tu [.s (.i .u64 bt4.1), .s (.i .i64 bt4.2)]), .r (.s (.sl .u32 t5)), .r (.s (.sl .u32 t6)), .r (.s (.sl .u32 t7)), .r (.s (.sl .u32 t8)), .r (.s (.i .i64 t9)), .br false, .br false, .br false, .br false, .br false, .br false, .br false, .br false, .br false, .br false] (fun e => ai (d0 c1) (ai (q0 c6) (ai (gnomonref07_Parts.c A7) (ai (gnomonref01_Word.c A8) (ai (gnomonref01_Shl.c A9) (ai (gnomonref01_Word.c A10) (ai (gnomonref01_Add.c A11) (ai (gnomonref08_Hold.c A12) (ai (d0 c13) (ai (d0 c13) (ai (d0 c13) (ai (q0 c14) (ai (q0 c14) (ai (q0 c14) (ai (d0 c13) (ai (q0 c14) (ai (d0 c13) (ai ff e)))))))))))))))))) (by kernel_rfl)
theorem gnomonref08_Size.c {k : Nat} {a0_0 : Int} {a0_1 : Int} {a0_2 : Int} {a0_3 : Int} {a0_4 : Int} {a0_5 : Int} {l1_0 : List Int} {l1_1 : List Int} {a1_2 : Int} {a1_3 : Bool} {r : Int} (h : gnomonref08_Size.f k a0_0 a0_1 a0_2 a0_3 a0_4 a0_5 l1_0 l1_1 a1_2 a1_3 = some r) : Con Tryz.prog Gw 149 [.ag [.i .u64 a0_0, .i .i64 a0_1, .i .i64 a0_2, .i .i64 a0_3, .i .u64 a0_4, .i .u64 a0_5], .ag [.sl .u32 l1_0, .sl .u32 l1_1, .i .i64 a1_2, .b a1_3]] (· = .s (.i .u64 r)) := by
 unfold gnomonref08_Size.f at h
 exact pth Tryz.func149 [.cut 2 [2, 3, 5, 6] [0, 1] []] (fun _ => (gnomonref08_Size.jc k _ _ _ _ _ _ _ _ _ _ _ _ _ h)) (by kernel_rfl)
def gnomonref08_signed.f (a0_0 : Int) (a0_1 : Int) (a0_2 : Int) (a0_3 : Int) (a0_4 : Int) (a0_5 : Int) (a1 : Bool) (a2 : Int) : Option (Int) := if a1 = true then (some (IntKind.u64.wrap (a0_0 + a2))) else (some a2)
theorem gnomonref08_signed.c {a0_0 : Int} {a0_1 : Int} {a0_2 : Int} {a0_3 : Int} {a0_4 : Int} {a0_5 : Int} {a1 : Bool} {a2 : Int} {r : Int} (h : gnomonref08_signed.f a0_0 a0_1 a0_2 a0_3 a0_4 a0_5 a1 a2 = some r) : Con Tryz.prog Gw 150 [.ag [.i .u64 a0_0, .i .i64 a0_1, .i .i64 a0_2, .i .i64 a0_3, .i .u64 a0_4, .i .u64 a0_5], .s (.b a1), .s (.i .u64 a2)] (· = .s (.i .u64 r)) := by
 unfold gnomonref08_signed.f at h
 rcases ite_e h with ⟨c1, h⟩ | ⟨c1, h⟩
 ·have h := si h; subst h
  exact pth Tryz.func150 [.br true] (fun e => ai c1 e) (by kernel_rfl)
 ·have h := si h; subst h
  exact pth Tryz.func150 [.br false] (fun e => ai (z0 c1) e) (by kernel_rfl)
end Go.Proofs.YtelfmddcjlocpaaGreatDoor.PLib
end
section
namespace Go.Proofs.YtelfmddcjlocpaaGreatDoor.PRfz
open Go.RowKit Go.Proofs.YtelfmddcjlocpaaGreatDoorW.PrintWords Go.Proofs.YtelfmddcjlocpaaGreatDoorW.PrintLast Go.Proofs.YtelfmddcjlocpaaGreatDoorW.PrintMore Go.Proofs.YtelfmddcjlocpaaGreatDoor.Given Go.Proofs.YtelfmddcjlocpaaGreatDoor.GTab
attribute [local go_sem] max2_int min2_int max_two min_two max_three min_three max_four min_four   -- for this text's walks alone
set_option linter.unusedVariables false
set_option linter.unusedSimpArgs false
def errW : Option Int → Value
 | none => .nilIface
 | some c => .iface 0 (.int .i64 c)
theorem errW_none : errW none = .nilIface := rfl
theorem errW_some (c : Int) : errW (some c) = .iface 0 (.int .i64 c) := rfl
theorem info29 : (Tryz.prog.info? 29).map (fun i => (i.zero, i.size, i.bytes)) = some (some (.int .u64 0), 1, 8) := by kernel_rfl
theorem info185 : (Tryz.prog.info? 185).map (fun i => (i.zero, i.size, i.bytes)) = some (some (.int .u32 0), 1, 4) := by kernel_rfl
end Go.Proofs.YtelfmddcjlocpaaGreatDoor.PRfz
end
