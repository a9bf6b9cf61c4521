/- Functions of the program as plain Lean functions (definitions as the print's), and that the machine's calls do what they do (contracts 'X.c', by Px). Condition: math/bits' table is laid. -/
import Derived.Test.YtelfmddcjlocpaaDoorKAcceptMiddlesPxBr
import Derived.Test.YtelfmddcjlocpaaDoorKAcceptMiddlesPxGiven
import Derived.Test.YtelfmddcjlocpaaDoorProg
import Derived.Test.YtelfmddcjlocpaaDoorKAcceptMiddlesGiven
import Derived.Below
import Derived.Deep.Draws
import Derived.Deep.AppendLies
import Derived.Maps.AppendAt
import Derived.OwnWalk
import Derived.Laws.BytesArg
import Derived.Laws.MakeOwn
import Derived.Laws.OwnMore
import Derived.Deep.OwnRows
import Derived.Tactics
import Derived.Lib.ConvBytes
import Derived.Laws.Slices
import Derived.WalkKit
import Derived.KernelRfl
import Derived.RowKit3
import Derived.Deep.LoopGhost
import Derived.Deep.QuietTactic
import Derived.BigQuiet
import Derived.WideLaws
import Derived.Deep.DeepCutAuto
import Derived.Deep.CutBlock
import Derived.Deep.RegionHeld3
import Derived.Laws.Rows
import Derived.Lib.AppendStr
import Derived.ArgAppend
import Derived.Laws.IdiomCopy
import Derived.OrdersHeld
import Derived.Laws.BitsLemmas
import Derived.RowKit
import Derived.Test.YtelfmddcjlocpaaDoorKAcceptMiddlesWWords
import Derived.Test.YtelfmddcjlocpaaDoorKAcceptMiddlesBl
import Derived.Test.YtelfmddcjlocpaaDoorKAcceptMiddlesWInv
import Derived.Laws.StructEq
import Derived.Laws.CopyOwn
import Derived.Test.YtelfmddcjlocpaaDoorKAcceptMiddlesAccC
import Derived.Test.YtelfmddcjlocpaaDoorKAcceptMiddlesPxL0
import Derived.Test.YtelfmddcjlocpaaDoorKAcceptMiddlesPxL1
import Derived.Test.YtelfmddcjlocpaaDoorKAcceptMiddlesRp4
import Derived.Test.YtelfmddcjlocpaaDoorKAcceptMiddlesPxL4
import Derived.Test.YtelfmddcjlocpaaDoorKAcceptMiddlesPxL5
set_option linter.unusedVariables false
namespace Go.Proofs.YtelfmddcjlocpaaDoor.PLib
open Go Go.RowKit Go.Proofs.YtelfmddcjlocpaaDoorW.PrintWords Go.Proofs.YtelfmddcjlocpaaDoorW.PrintMore Go.Proofs.YtelfmddcjlocpaaDoor.Given Go.Proofs.YtelfmddcjlocpaaDoor.Px
noncomputable def gnomonlaw25_AcceptMiddles.f (k : Nat) (a0 : Int) (a1 : Int) (a2 : Int) : Option (Bool) := (gnomonlaw25_awake.f).bind fun t1 => (if t1 = true then (if Int.tmod a0 9223372036854775808 < 558446353793941504 then (some true) else (if Int.tmod a0 9223372036854775808 > 8655918483806093312 then (some true) else (if a1 < (-100) then (some true) else (if a1 > (-56) then (some true) else ((binary_Mid.f k 64 a0).bind fun bt2 => ((binary_Value.f k 64 a0).bind fun bt3 => ((dyadic_Sub.f k bt2.1 bt2.2.1 bt2.2.2.1 bt3.1 bt3.2.1 bt3.2.2.1).bind fun bt4 => ((round_Nearest.f k 64 bt4.1 bt4.2.1 bt4.2.2.1).bind fun bt5 => (if bt2.2.2.2 = 0 then (if bt3.2.2.2 = 0 then (if bt4.2.2.2 = 0 then (if bt5.2 = 0 then ((gnomonlaw25_ask.f a0 bt5.1 a1).bind fun bt6 => (if bt6.2 = true then (some false) else (if bt6.1 = 0 then ((gnomonlaw25_ask.f a0 (IntKind.u64.wrap (bt5.1 - (Int.tmod a2 1024))) a1).bind fun bt7 => (if a1 < (-92) then (some true) else (if bt7.2 = true then (some false) else (some (bt7.1 == 0))))) else (some false)))) else (some false)) else (some false)) else (some false)) else (some false)))))))))) else (some false))
theorem gnomonlaw25_AcceptMiddles.c {k : Nat} {a0 : Int} {a1 : Int} {a2 : Int} {r : Bool} (h : gnomonlaw25_AcceptMiddles.f k a0 a1 a2 = some r) : Con Tryd.prog Gw 6 [.s (.i .u64 a0), .s (.i .i64 a1), .s (.i .u64 a2)] (· = .s (.b r)) := by
 unfold gnomonlaw25_AcceptMiddles.f at h
 obtain ⟨t1, A1, h⟩ := bnd h
 rcases ite_e h with ⟨c2, h⟩ | ⟨c2, h⟩
 ·rcases ite_e h with ⟨c3, h⟩ | ⟨c3, h⟩
  ·have h := si h; subst h
   exact pth Tryd.func6 [.r (.s (.b t1)), .br false, .br true, .br true, .br true, .br true, .br true, .br true, .br true, .br true, .br true, .br true] (fun e => ai (gnomonlaw25_awake.c A1) (ai (nt1 c2) (ai (by decide : (9223372036854775808 : Int) ≠ 0) (ai (d1 c3) (ai (d1 c3) (ai (d1 c3) (ai tt (ai tt (ai tt (ai tt (ai tt (ai tt (ai tt e))))))))))))) (by kernel_rfl)
  ·rcases ite_e h with ⟨c4, h⟩ | ⟨c4, h⟩
   ·have h := si h; subst h
    exact pth Tryd.func6 [.r (.s (.b t1)), .br false, .br false, .br false, .br false, .br true, .br true, .br true, .br true, .br true, .br true, .br true] (fun e => ai (gnomonlaw25_awake.c A1) (ai (nt1 c2) (ai (by decide : (9223372036854775808 : Int) ≠ 0) (ai (d0 c3) (ai (d0 c3) (ai (d0 c3) (ai (d1 c4) (ai (d1 c4) (ai (d1 c4) (ai tt (ai tt (ai tt (ai tt e))))))))))))) (by kernel_rfl)
   ·rcases ite_e h with ⟨c5, h⟩ | ⟨c5, h⟩
    ·have h := si h; subst h
     exact pth Tryd.func6 [.r (.s (.b t1)), .br false, .br false, .br false, .br false, .br false, .br false, .br false, .br true, .br true, .br true, .br true] (fun e => ai (gnomonlaw25_awake.c A1) (ai (nt1 c2) (ai (by decide : (9223372036854775808 : Int) ≠ 0) (ai (d0 c3) (ai (d0 c3) (ai (d0 c3) (ai (d0 c4) (ai (d0 c4) (ai (d0 c4) (ai (d1 c5) (ai (d1 c5) (ai (d1 c5) (ai tt e))))))))))))) (by kernel_rfl)
    ·rcases ite_e h with ⟨c6, h⟩ | ⟨c6, h⟩
     ·have h := si h; subst h
      exact pth Tryd.func6 [.r (.s (.b t1)), .br false, .br false, .br false, .br false, .br false, .br false, .br false, .br false, .br false, .br false, .br true] (fun e => ai (gnomonlaw25_awake.c A1) (ai (nt1 c2) (ai (by decide : (9223372036854775808 : Int) ≠ 0) (ai (d0 c3) (ai (d0 c3) (ai (d0 c3) (ai (d0 c4) (ai (d0 c4) (ai (d0 c4) (ai (d0 c5) (ai (d0 c5) (ai (d0 c5) (ai (d1 c6) e))))))))))))) (by kernel_rfl)
     ·obtain ⟨bt2, A7, h⟩ := bnd h
      obtain ⟨bt3, A8, h⟩ := bnd h
      obtain ⟨bt4, A9, h⟩ := bnd h
      obtain ⟨bt5, A10, h⟩ := bnd h
      rcases ite_e h with ⟨c11, h⟩ | ⟨c11, h⟩
      ·rcases ite_e h with ⟨c12, h⟩ | ⟨c12, h⟩
       ·rcases ite_e h with ⟨c13, h⟩ | ⟨c13, h⟩
        ·rcases ite_e h with ⟨c14, h⟩ | ⟨c14, h⟩
         ·obtain ⟨bt6, A15, h⟩ := bnd h
          rcases ite_e h with ⟨c16, h⟩ | ⟨c16, h⟩
          ·have h := si h; subst h
           exact pth Tryd.func6 [.r (.s (.b t1)), .br false, .br false, .br false, .br false, .br false, .br false, .br false, .br false, .br false, .br false, .br false, .r (.tu [.ag [.b bt2.1, .sl .u64 bt2.2.1, .i .i64 bt2.2.2.1], .s (.i .i64 bt2.2.2.2)]), .r (.tu [.ag [.b bt3.1, .sl .u64 bt3.2.1, .i .i64 bt3.2.2.1], .s (.i .i64 bt3.2.2.2)]), .r (.tu [.ag [.b bt4.1, .sl .u64 bt4.2.1, .i .i64 bt4.2.2.1], .s (.i .i64 bt4.2.2.2)]), .r (.tu [.s (.i .u64 bt5.1), .s (.i .i64 bt5.2)]), .br false, .br false, .br false, .br false, .br false, .br false, .br false, .br false, .br false, .br false, .r (.tu [.s (.i .u64 bt6.1), .s (.b bt6.2)]), .br true, .br true, .br true, .br true] (fun e => ai (gnomonlaw25_awake.c A1) (ai (nt1 c2) (ai (by decide : (9223372036854775808 : Int) ≠ 0) (ai (d0 c3) (ai (d0 c3) (ai (d0 c3) (ai (d0 c4) (ai (d0 c4) (ai (d0 c4) (ai (d0 c5) (ai (d0 c5) (ai (d0 c5) (ai (d0 c6) (ai (binary_Mid.c A7) (ai (binary_Value.c A8) (ai (dyadic_Sub.c A9) (ai (round_Nearest.c A10) (ai (n0 c11) (ai (n0 c11) (ai (n0 c11) (ai (n0 c12) (ai (n0 c12) (ai (n0 c12) (ai (n0 c13) (ai (n0 c13) (ai (n0 c13) (ai (n0 c14) (ai (gnomonlaw25_ask.c A15) (ai c16 (ai c16 (ai c16 (ai tt e)))))))))))))))))))))))))))))))) (by kernel_rfl)
          ·rcases ite_e h with ⟨c17, h⟩ | ⟨c17, h⟩
           ·obtain ⟨bt7, A18, h⟩ := bnd h
            rcases ite_e h with ⟨c19, h⟩ | ⟨c19, h⟩
            ·have h := si h; subst h
             exact pth Tryd.func6 [.r (.s (.b t1)), .br false, .br false, .br false, .br false, .br false, .br false, .br false, .br false, .br false, .br false, .br false, .r (.tu [.ag [.b bt2.1, .sl .u64 bt2.2.1, .i .i64 bt2.2.2.1], .s (.i .i64 bt2.2.2.2)]), .r (.tu [.ag [.b bt3.1, .sl .u64 bt3.2.1, .i .i64 bt3.2.2.1], .s (.i .i64 bt3.2.2.2)]), .r (.tu [.ag [.b bt4.1, .sl .u64 bt4.2.1, .i .i64 bt4.2.2.1], .s (.i .i64 bt4.2.2.2)]), .r (.tu [.s (.i .u64 bt5.1), .s (.i .i64 bt5.2)]), .br false, .br false, .br false, .br false, .br false, .br false, .br false, .br false, .br false, .br false, .r (.tu [.s (.i .u64 bt6.1), .s (.b bt6.2)]), .br false, .br false, .br false, .br false, .r (.tu [.s (.i .u64 bt7.1), .s (.b bt7.2)]), .br true, .br true, .br true, .br true, .br true] (fun e => ai (gnomonlaw25_awake.c A1) (ai (nt1 c2) (ai (by decide : (9223372036854775808 : Int) ≠ 0) (ai (d0 c3) (ai (d0 c3) (ai (d0 c3) (ai (d0 c4) (ai (d0 c4) (ai (d0 c4) (ai (d0 c5) (ai (d0 c5) (ai (d0 c5) (ai (d0 c6) (ai (binary_Mid.c A7) (ai (binary_Value.c A8) (ai (dyadic_Sub.c A9) (ai (round_Nearest.c A10) (ai (n0 c11) (ai (n0 c11) (ai (n0 c11) (ai (n0 c12) (ai (n0 c12) (ai (n0 c12) (ai (n0 c13) (ai (n0 c13) (ai (n0 c13) (ai (n0 c14) (ai (gnomonlaw25_ask.c A15) (ai (z0 c16) (ai (z0 c16) (ai (z0 c16) (ai (n0 c17) (ai (by decide : (1024 : Int) ≠ 0) (ai (gnomonlaw25_ask.c A18) (ai (d1 c19) (ai (d1 c19) (ai (d1 c19) (ai (d1 c19) (ai (d1 c19) e))))))))))))))))))))))))))))))))))))))) (by kernel_rfl)
            ·rcases ite_e h with ⟨c20, h⟩ | ⟨c20, h⟩
             ·have h := si h; subst h
              exact pth Tryd.func6 [.r (.s (.b t1)), .br false, .br false, .br false, .br false, .br false, .br false, .br false, .br false, .br false, .br false, .br false, .r (.tu [.ag [.b bt2.1, .sl .u64 bt2.2.1, .i .i64 bt2.2.2.1], .s (.i .i64 bt2.2.2.2)]), .r (.tu [.ag [.b bt3.1, .sl .u64 bt3.2.1, .i .i64 bt3.2.2.1], .s (.i .i64 bt3.2.2.2)]), .r (.tu [.ag [.b bt4.1, .sl .u64 bt4.2.1, .i .i64 bt4.2.2.1], .s (.i .i64 bt4.2.2.2)]), .r (.tu [.s (.i .u64 bt5.1), .s (.i .i64 bt5.2)]), .br false, .br false, .br false, .br false, .br false, .br false, .br false, .br false, .br false, .br false, .r (.tu [.s (.i .u64 bt6.1), .s (.b bt6.2)]), .br false, .br false, .br false, .br false, .r (.tu [.s (.i .u64 bt7.1), .s (.b bt7.2)]), .br false, .br false, .br false, .br false, .br false, .br false, .br false, .br false] (fun e => ai (gnomonlaw25_awake.c A1) (ai (nt1 c2) (ai (by decide : (9223372036854775808 : Int) ≠ 0) (ai (d0 c3) (ai (d0 c3) (ai (d0 c3) (ai (d0 c4) (ai (d0 c4) (ai (d0 c4) (ai (d0 c5) (ai (d0 c5) (ai (d0 c5) (ai (d0 c6) (ai (binary_Mid.c A7) (ai (binary_Value.c A8) (ai (dyadic_Sub.c A9) (ai (round_Nearest.c A10) (ai (n0 c11) (ai (n0 c11) (ai (n0 c11) (ai (n0 c12) (ai (n0 c12) (ai (n0 c12) (ai (n0 c13) (ai (n0 c13) (ai (n0 c13) (ai (n0 c14) (ai (gnomonlaw25_ask.c A15) (ai (z0 c16) (ai (z0 c16) (ai (z0 c16) (ai (n0 c17) (ai (by decide : (1024 : Int) ≠ 0) (ai (gnomonlaw25_ask.c A18) (ai (d0 c19) (ai (d0 c19) (ai (d0 c19) (ai (nt1 c20) (ai (nt1 c20) (ai (d0 c19) (ai (nt1 c20) (ai (d0 c19) e)))))))))))))))))))))))))))))))))))))))))) (by kernel_rfl)
             ·have h := si h; subst h
              exact pth Tryd.func6 [.r (.s (.b t1)), .br false, .br false, .br false, .br false, .br false, .br false, .br false, .br false, .br false, .br false, .br false, .r (.tu [.ag [.b bt2.1, .sl .u64 bt2.2.1, .i .i64 bt2.2.2.1], .s (.i .i64 bt2.2.2.2)]), .r (.tu [.ag [.b bt3.1, .sl .u64 bt3.2.1, .i .i64 bt3.2.2.1], .s (.i .i64 bt3.2.2.2)]), .r (.tu [.ag [.b bt4.1, .sl .u64 bt4.2.1, .i .i64 bt4.2.2.1], .s (.i .i64 bt4.2.2.2)]), .r (.tu [.s (.i .u64 bt5.1), .s (.i .i64 bt5.2)]), .br false, .br false, .br false, .br false, .br false, .br false, .br false, .br false, .br false, .br false, .r (.tu [.s (.i .u64 bt6.1), .s (.b bt6.2)]), .br false, .br false, .br false, .br false, .r (.tu [.s (.i .u64 bt7.1), .s (.b bt7.2)]), .br false, .br false, .br false, .br true, .br true, .br false, .br true, .br false] (fun e => ai (gnomonlaw25_awake.c A1) (ai (nt1 c2) (ai (by decide : (9223372036854775808 : Int) ≠ 0) (ai (d0 c3) (ai (d0 c3) (ai (d0 c3) (ai (d0 c4) (ai (d0 c4) (ai (d0 c4) (ai (d0 c5) (ai (d0 c5) (ai (d0 c5) (ai (d0 c6) (ai (binary_Mid.c A7) (ai (binary_Value.c A8) (ai (dyadic_Sub.c A9) (ai (round_Nearest.c A10) (ai (n0 c11) (ai (n0 c11) (ai (n0 c11) (ai (n0 c12) (ai (n0 c12) (ai (n0 c12) (ai (n0 c13) (ai (n0 c13) (ai (n0 c13) (ai (n0 c14) (ai (gnomonlaw25_ask.c A15) (ai (z0 c16) (ai (z0 c16) (ai (z0 c16) (ai (n0 c17) (ai (by decide : (1024 : Int) ≠ 0) (ai (gnomonlaw25_ask.c A18) (ai (d0 c19) (ai (d0 c19) (ai (d0 c19) (ai (nt0 (z0 c20)) (ai (nt0 (z0 c20)) (ai (d0 c19) (ai (nt0 (z0 c20)) (ai (d0 c19) e)))))))))))))))))))))))))))))))))))))))))) (by kernel_rfl)
           ·have h := si h; subst h
            exact pth Tryd.func6 [.r (.s (.b t1)), .br false, .br false, .br false, .br false, .br false, .br false, .br false, .br false, .br false, .br false, .br false, .r (.tu [.ag [.b bt2.1, .sl .u64 bt2.2.1, .i .i64 bt2.2.2.1], .s (.i .i64 bt2.2.2.2)]), .r (.tu [.ag [.b bt3.1, .sl .u64 bt3.2.1, .i .i64 bt3.2.2.1], .s (.i .i64 bt3.2.2.2)]), .r (.tu [.ag [.b bt4.1, .sl .u64 bt4.2.1, .i .i64 bt4.2.2.1], .s (.i .i64 bt4.2.2.2)]), .r (.tu [.s (.i .u64 bt5.1), .s (.i .i64 bt5.2)]), .br false, .br false, .br false, .br false, .br false, .br false, .br false, .br false, .br false, .br false, .r (.tu [.s (.i .u64 bt6.1), .s (.b bt6.2)]), .br false, .br false, .br false, .br true] (fun e => ai (gnomonlaw25_awake.c A1) (ai (nt1 c2) (ai (by decide : (9223372036854775808 : Int) ≠ 0) (ai (d0 c3) (ai (d0 c3) (ai (d0 c3) (ai (d0 c4) (ai (d0 c4) (ai (d0 c4) (ai (d0 c5) (ai (d0 c5) (ai (d0 c5) (ai (d0 c6) (ai (binary_Mid.c A7) (ai (binary_Value.c A8) (ai (dyadic_Sub.c A9) (ai (round_Nearest.c A10) (ai (n0 c11) (ai (n0 c11) (ai (n0 c11) (ai (n0 c12) (ai (n0 c12) (ai (n0 c12) (ai (n0 c13) (ai (n0 c13) (ai (n0 c13) (ai (n0 c14) (ai (gnomonlaw25_ask.c A15) (ai (z0 c16) (ai (z0 c16) (ai (z0 c16) (ai (n1 c17) e)))))))))))))))))))))))))))))))) (by kernel_rfl)
         ·have h := si h; subst h
          exact pth Tryd.func6 [.r (.s (.b t1)), .br false, .br false, .br false, .br false, .br false, .br false, .br false, .br false, .br false, .br false, .br false, .r (.tu [.ag [.b bt2.1, .sl .u64 bt2.2.1, .i .i64 bt2.2.2.1], .s (.i .i64 bt2.2.2.2)]), .r (.tu [.ag [.b bt3.1, .sl .u64 bt3.2.1, .i .i64 bt3.2.2.1], .s (.i .i64 bt3.2.2.2)]), .r (.tu [.ag [.b bt4.1, .sl .u64 bt4.2.1, .i .i64 bt4.2.2.1], .s (.i .i64 bt4.2.2.2)]), .r (.tu [.s (.i .u64 bt5.1), .s (.i .i64 bt5.2)]), .br false, .br false, .br false, .br false, .br false, .br false, .br false, .br false, .br false, .br true] (fun e => ai (gnomonlaw25_awake.c A1) (ai (nt1 c2) (ai (by decide : (9223372036854775808 : Int) ≠ 0) (ai (d0 c3) (ai (d0 c3) (ai (d0 c3) (ai (d0 c4) (ai (d0 c4) (ai (d0 c4) (ai (d0 c5) (ai (d0 c5) (ai (d0 c5) (ai (d0 c6) (ai (binary_Mid.c A7) (ai (binary_Value.c A8) (ai (dyadic_Sub.c A9) (ai (round_Nearest.c A10) (ai (n0 c11) (ai (n0 c11) (ai (n0 c11) (ai (n0 c12) (ai (n0 c12) (ai (n0 c12) (ai (n0 c13) (ai (n0 c13) (ai (n0 c13) (ai (n1 c14) e))))))))))))))))))))))))))) (by kernel_rfl)
        ·have h := si h; subst h
         exact pth Tryd.func6 [.r (.s (.b t1)), .br false, .br false, .br false, .br false, .br false, .br false, .br false, .br false, .br false, .br false, .br false, .r (.tu [.ag [.b bt2.1, .sl .u64 bt2.2.1, .i .i64 bt2.2.2.1], .s (.i .i64 bt2.2.2.2)]), .r (.tu [.ag [.b bt3.1, .sl .u64 bt3.2.1, .i .i64 bt3.2.2.1], .s (.i .i64 bt3.2.2.2)]), .r (.tu [.ag [.b bt4.1, .sl .u64 bt4.2.1, .i .i64 bt4.2.2.1], .s (.i .i64 bt4.2.2.2)]), .r (.tu [.s (.i .u64 bt5.1), .s (.i .i64 bt5.2)]), .br false, .br false, .br false, .br false, .br false, .br false, .br true, .br true, .br true, .br true] (fun e => ai (gnomonlaw25_awake.c A1) (ai (nt1 c2) (ai (by decide : (9223372036854775808 : Int) ≠ 0) (ai (d0 c3) (ai (d0 c3) (ai (d0 c3) (ai (d0 c4) (ai (d0 c4) (ai (d0 c4) (ai (d0 c5) (ai (d0 c5) (ai (d0 c5) (ai (d0 c6) (ai (binary_Mid.c A7) (ai (binary_Value.c A8) (ai (dyadic_Sub.c A9) (ai (round_Nearest.c A10) (ai (n0 c11) (ai (n0 c11) (ai (n0 c11) (ai (n0 c12) (ai (n0 c12) (ai (n0 c12) (ai (n1 c13) (ai (n1 c13) (ai (n1 c13) (ai tt e))))))))))))))))))))))))))) (by kernel_rfl)
       ·have h := si h; subst h
        exact pth Tryd.func6 [.r (.s (.b t1)), .br false, .br false, .br false, .br false, .br false, .br false, .br false, .br false, .br false, .br false, .br false, .r (.tu [.ag [.b bt2.1, .sl .u64 bt2.2.1, .i .i64 bt2.2.2.1], .s (.i .i64 bt2.2.2.2)]), .r (.tu [.ag [.b bt3.1, .sl .u64 bt3.2.1, .i .i64 bt3.2.2.1], .s (.i .i64 bt3.2.2.2)]), .r (.tu [.ag [.b bt4.1, .sl .u64 bt4.2.1, .i .i64 bt4.2.2.1], .s (.i .i64 bt4.2.2.2)]), .r (.tu [.s (.i .u64 bt5.1), .s (.i .i64 bt5.2)]), .br false, .br false, .br false, .br true, .br true, .br true, .br true, .br true, .br true, .br true] (fun e => ai (gnomonlaw25_awake.c A1) (ai (nt1 c2) (ai (by decide : (9223372036854775808 : Int) ≠ 0) (ai (d0 c3) (ai (d0 c3) (ai (d0 c3) (ai (d0 c4) (ai (d0 c4) (ai (d0 c4) (ai (d0 c5) (ai (d0 c5) (ai (d0 c5) (ai (d0 c6) (ai (binary_Mid.c A7) (ai (binary_Value.c A8) (ai (dyadic_Sub.c A9) (ai (round_Nearest.c A10) (ai (n0 c11) (ai (n0 c11) (ai (n0 c11) (ai (n1 c12) (ai (n1 c12) (ai (n1 c12) (ai tt (ai tt (ai tt (ai tt e))))))))))))))))))))))))))) (by kernel_rfl)
      ·have h := si h; subst h
       exact pth Tryd.func6 [.r (.s (.b t1)), .br false, .br false, .br false, .br false, .br false, .br false, .br false, .br false, .br false, .br false, .br false, .r (.tu [.ag [.b bt2.1, .sl .u64 bt2.2.1, .i .i64 bt2.2.2.1], .s (.i .i64 bt2.2.2.2)]), .r (.tu [.ag [.b bt3.1, .sl .u64 bt3.2.1, .i .i64 bt3.2.2.1], .s (.i .i64 bt3.2.2.2)]), .r (.tu [.ag [.b bt4.1, .sl .u64 bt4.2.1, .i .i64 bt4.2.2.1], .s (.i .i64 bt4.2.2.2)]), .r (.tu [.s (.i .u64 bt5.1), .s (.i .i64 bt5.2)]), .br true, .br true, .br true, .br true, .br true, .br true, .br true, .br true, .br true, .br true] (fun e => ai (gnomonlaw25_awake.c A1) (ai (nt1 c2) (ai (by decide : (9223372036854775808 : Int) ≠ 0) (ai (d0 c3) (ai (d0 c3) (ai (d0 c3) (ai (d0 c4) (ai (d0 c4) (ai (d0 c4) (ai (d0 c5) (ai (d0 c5) (ai (d0 c5) (ai (d0 c6) (ai (binary_Mid.c A7) (ai (binary_Value.c A8) (ai (dyadic_Sub.c A9) (ai (round_Nearest.c A10) (ai (n1 c11) (ai (n1 c11) (ai (n1 c11) (ai tt (ai tt (ai tt (ai tt (ai tt (ai tt (ai tt e))))))))))))))))))))))))))) (by kernel_rfl)
 ·have h := si h; subst h
  exact pth Tryd.func6 [.r (.s (.b t1)), .br true] (fun e => ai (gnomonlaw25_awake.c A1) (ai (nt0 (z0 c2)) e)) (by kernel_rfl)
end Go.Proofs.YtelfmddcjlocpaaDoor.PLib
