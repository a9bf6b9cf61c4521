/- Functions of the program as plain Lean functions (definitions as the print's), and that the machine's calls do what they do (contracts 'X.c', by Px). Condition: math/bits' table is laid. The question whether a double-double lies within 2^-e of an exact number: plain Lean over the functions. Condition: bounded numbers. -/
import Derived.Test.YtapikmfckpgjoaaDoorKDdSplitsPxBr
import Derived.Test.YtapikmfckpgjoaaDoorKDdSplitsPxFl
import Derived.Test.YtapikmfckpgjoaaDoorKDdSplitsGL
import Derived.OwnWalk
import Derived.Lib.Mul64
import Derived.Laws.Bits64b
import Derived.WalkKit
import Derived.Deep.QuietTactic
import Derived.BigQuiet
import Derived.Tactics2
import Derived.Test.YtapikmfckpgjoaaDoorKDdSplitsGiven
import Derived.Test.YtapikmfckpgjoaaDoorKDdSplitsPxL0
import Derived.Test.YtapikmfckpgjoaaDoorKDdSplitsPxL1
import Derived.Test.YtapikmfckpgjoaaDoorKDdSplitsDdE
import Derived.Test.YtapikmfckpgjoaaDoorProg
import Derived.Below
import Derived.Deep.Draws
import Derived.Deep.AppendLies
import Derived.Maps.AppendAt
import Derived.Laws.BytesArg
import Derived.Laws.MakeOwn
import Derived.Laws.OwnMore
import Derived.Deep.OwnRows
import Derived.Tactics
import Derived.Lib.ConvBytes
import Derived.Laws.Slices
import Derived.KernelRfl
import Derived.RowKit3
import Derived.Deep.LoopGhost
import Derived.WideLaws
import Derived.Deep.DeepCutAuto
import Derived.Deep.CutBlock
import Derived.Deep.RegionHeld3
import Derived.Laws.Rows
import Derived.Lib.AppendStr
import Derived.ArgAppend
import Derived.Laws.IdiomCopy
import Derived.OrdersHeld
import Derived.Laws.BitsLemmas
import Derived.RowKit
import Derived.Test.YtapikmfckpgjoaaDoorKDdSplitsWWords
import Derived.Test.YtapikmfckpgjoaaDoorKDdSplitsWLast
import Derived.Test.YtapikmfckpgjoaaDoorKDdSplitsWGuard
import Derived.Test.YtapikmfckpgjoaaDoorKDdSplitsWMore
import Derived.Laws.StructEq
import Derived.Test.YtapikmfckpgjoaaDoorKDdSplitsPLenx0
section
set_option linter.unusedVariables false
namespace Go.Proofs.YtapikmfckpgjoaaDoor.PLib
open Go Go.RowKit Go.Proofs.YtapikmfckpgjoaaDoorW.PrintWords Go.Proofs.YtapikmfckpgjoaaDoorW.PrintMore Go.Proofs.YtapikmfckpgjoaaDoor.Given Go.Proofs.YtapikmfckpgjoaaDoor.Px
def gnomonlaw20_awake.f  : Option (Bool) := (gnomonlaw20_float.f 4607182418800017408).bind fun t1 => ((gnomonlaw20_float.f 4359484439294640128).bind fun t2 => ((dd_Sum.f t1 t2).bind fun bt3 => ((gnomonlaw20_bits.f bt3.1 bt3.2).bind fun bt4 => ((gnomonlaw20_float.f 4607182418800017408).bind fun t5 => ((dd_Of.f t5).bind fun bt6 => ((gnomonlaw20_float.f 4613937818241073152).bind fun t7 => ((dd_Of.f t7).bind fun bt8 => ((dd_Div.f bt6.1 bt6.2 bt8.1 bt8.2).bind fun bt9 => ((gnomonlaw20_bits.f bt9.1 bt9.2).bind fun bt10 => (if bt4.1 = 4607182418800017408 then (if bt4.2 = 4359484439294640128 then (if bt10.1 = 4599676419421066581 then ((gnomonlaw20_pair.f bt4.1 bt4.2).bind fun bt11 => ((dd_Form.f bt11.1 bt11.2).bind fun t12 => (if t12 = true then ((gnomonlaw20_pair.f bt4.1 bt4.2).bind fun bt13 => ((gnomonlaw20_float.f 4607182418800017408).bind fun t14 => ((dd_Of.f t14).bind fun bt15 => ((dd_Cmp.f bt13.1 bt13.2 bt15.1 bt15.2).bind fun t16 => (some (t16 == 1)))))) else (some false)))) else (some false)) else (some false)) else (some false)))))))))))
theorem gnomonlaw20_awake.c  {r : Bool} (h : gnomonlaw20_awake.f = some r) : Con Tryd.prog Gw 8 [] (· = .s (.b r)) := by
 unfold gnomonlaw20_awake.f at h
 obtain ⟨t1, A1, h⟩ := bnd h
 obtain ⟨t2, A2, h⟩ := bnd h
 obtain ⟨bt3, A3, h⟩ := bnd h
 obtain ⟨bt4, A4, h⟩ := bnd h
 obtain ⟨t5, A5, h⟩ := bnd h
 obtain ⟨bt6, A6, h⟩ := bnd h
 obtain ⟨t7, A7, h⟩ := bnd h
 obtain ⟨bt8, A8, h⟩ := bnd h
 obtain ⟨bt9, A9, h⟩ := bnd h
 obtain ⟨bt10, A10, h⟩ := bnd h
 rcases ite_e h with ⟨c11, h⟩ | ⟨c11, h⟩
 ·rcases ite_e h with ⟨c12, h⟩ | ⟨c12, h⟩
  ·rcases ite_e h with ⟨c13, h⟩ | ⟨c13, h⟩
   ·obtain ⟨bt11, A14, h⟩ := bnd h
    obtain ⟨t12, A15, h⟩ := bnd h
    rcases ite_e h with ⟨c16, h⟩ | ⟨c16, h⟩
    ·obtain ⟨bt13, A17, h⟩ := bnd h
     obtain ⟨t14, A18, h⟩ := bnd h
     obtain ⟨bt15, A19, h⟩ := bnd h
     obtain ⟨t16, A20, h⟩ := bnd h
     have h := si h; subst h
     exact pth Tryd.func8 [.r (.s (.fl .f64 t1)), .r (.s (.fl .f64 t2)), .r (.ag [.fl .f64 bt3.1, .fl .f64 bt3.2]), .r (.ag [.i .u64 bt4.1, .i .u64 bt4.2]), .r (.s (.fl .f64 t5)), .r (.ag [.fl .f64 bt6.1, .fl .f64 bt6.2]), .r (.s (.fl .f64 t7)), .r (.ag [.fl .f64 bt8.1, .fl .f64 bt8.2]), .r (.ag [.fl .f64 bt9.1, .fl .f64 bt9.2]), .r (.ag [.i .u64 bt10.1, .i .u64 bt10.2]), .br true, .br true, .br true, .br true, .br true, .br true, .br true, .br true, .br true, .br true, .r (.ag [.fl .f64 bt11.1, .fl .f64 bt11.2]), .br true, .r (.s (.b t12)), .br true, .br true, .br true, .r (.ag [.fl .f64 bt13.1, .fl .f64 bt13.2]), .br true, .r (.s (.fl .f64 t14)), .br true, .r (.ag [.fl .f64 bt15.1, .fl .f64 bt15.2]), .br true, .r (.s (.i .i64 t16)), .br true, .br true] (fun e => ai (gnomonlaw20_float.c A1) (ai (gnomonlaw20_float.c A2) (ai (dd_Sum.c A3) (ai (gnomonlaw20_bits.c A4) (ai (gnomonlaw20_float.c A5) (ai (dd_Of.c A6) (ai (gnomonlaw20_float.c A7) (ai (dd_Of.c A8) (ai (dd_Div.c A9) (ai (gnomonlaw20_bits.c A10) (ai (q1 c11) (ai (q1 c11) (ai (q1 c11) (ai (q1 c11) (ai (q1 c12) (ai (q1 c12) (ai (q1 c12) (ai (q1 c12) (ai (q1 c13) (ai (q1 c13) (ai (gnomonlaw20_pair.c A14) (ai (q1 c13) (ai (dd_Form.c A15) (ai (q1 c13) (ai c16 (ai c16 (ai (gnomonlaw20_pair.c A17) (ai c16 (ai (gnomonlaw20_float.c A18) (ai c16 (ai (dd_Of.c A19) (ai c16 (ai (dd_Cmp.c A20) (ai c16 (ai c16 e))))))))))))))))))))))))))))))))))) (by kernel_rfl)
    ·have h := si h; subst h
     exact pth Tryd.func8 [.r (.s (.fl .f64 t1)), .r (.s (.fl .f64 t2)), .r (.ag [.fl .f64 bt3.1, .fl .f64 bt3.2]), .r (.ag [.i .u64 bt4.1, .i .u64 bt4.2]), .r (.s (.fl .f64 t5)), .r (.ag [.fl .f64 bt6.1, .fl .f64 bt6.2]), .r (.s (.fl .f64 t7)), .r (.ag [.fl .f64 bt8.1, .fl .f64 bt8.2]), .r (.ag [.fl .f64 bt9.1, .fl .f64 bt9.2]), .r (.ag [.i .u64 bt10.1, .i .u64 bt10.2]), .br true, .br true, .br true, .br true, .br true, .br true, .br true, .br true, .br true, .br true, .r (.ag [.fl .f64 bt11.1, .fl .f64 bt11.2]), .br true, .r (.s (.b t12)), .br true, .br false, .br false, .br false, .br false, .br false, .br false, .br false] (fun e => ai (gnomonlaw20_float.c A1) (ai (gnomonlaw20_float.c A2) (ai (dd_Sum.c A3) (ai (gnomonlaw20_bits.c A4) (ai (gnomonlaw20_float.c A5) (ai (dd_Of.c A6) (ai (gnomonlaw20_float.c A7) (ai (dd_Of.c A8) (ai (dd_Div.c A9) (ai (gnomonlaw20_bits.c A10) (ai (q1 c11) (ai (q1 c11) (ai (q1 c11) (ai (q1 c11) (ai (q1 c12) (ai (q1 c12) (ai (q1 c12) (ai (q1 c12) (ai (q1 c13) (ai (q1 c13) (ai (gnomonlaw20_pair.c A14) (ai (q1 c13) (ai (dd_Form.c A15) (ai (q1 c13) (ai (z0 c16) (ai (z0 c16) (ai (z0 c16) (ai (z0 c16) (ai (z0 c16) (ai (z0 c16) (ai (z0 c16) e))))))))))))))))))))))))))))))) (by kernel_rfl)
   ·have h := si h; subst h
    exact pth Tryd.func8 [.r (.s (.fl .f64 t1)), .r (.s (.fl .f64 t2)), .r (.ag [.fl .f64 bt3.1, .fl .f64 bt3.2]), .r (.ag [.i .u64 bt4.1, .i .u64 bt4.2]), .r (.s (.fl .f64 t5)), .r (.ag [.fl .f64 bt6.1, .fl .f64 bt6.2]), .r (.s (.fl .f64 t7)), .r (.ag [.fl .f64 bt8.1, .fl .f64 bt8.2]), .r (.ag [.fl .f64 bt9.1, .fl .f64 bt9.2]), .r (.ag [.i .u64 bt10.1, .i .u64 bt10.2]), .br true, .br true, .br true, .br true, .br true, .br true, .br true, .br true, .br false, .br false, .br false, .br false, .br false, .br false, .br false, .br false, .br false, .br false, .br false] (fun e => ai (gnomonlaw20_float.c A1) (ai (gnomonlaw20_float.c A2) (ai (dd_Sum.c A3) (ai (gnomonlaw20_bits.c A4) (ai (gnomonlaw20_float.c A5) (ai (dd_Of.c A6) (ai (gnomonlaw20_float.c A7) (ai (dd_Of.c A8) (ai (dd_Div.c A9) (ai (gnomonlaw20_bits.c A10) (ai (q1 c11) (ai (q1 c11) (ai (q1 c11) (ai (q1 c11) (ai (q1 c12) (ai (q1 c12) (ai (q1 c12) (ai (q1 c12) (ai (q0 c13) (ai (q0 c13) (ai (q0 c13) (ai (q0 c13) (ai ff (ai ff (ai ff (ai ff (ai ff (ai ff (ai ff e))))))))))))))))))))))))))))) (by kernel_rfl)
  ·have h := si h; subst h
   exact pth Tryd.func8 [.r (.s (.fl .f64 t1)), .r (.s (.fl .f64 t2)), .r (.ag [.fl .f64 bt3.1, .fl .f64 bt3.2]), .r (.ag [.i .u64 bt4.1, .i .u64 bt4.2]), .r (.s (.fl .f64 t5)), .r (.ag [.fl .f64 bt6.1, .fl .f64 bt6.2]), .r (.s (.fl .f64 t7)), .r (.ag [.fl .f64 bt8.1, .fl .f64 bt8.2]), .r (.ag [.fl .f64 bt9.1, .fl .f64 bt9.2]), .r (.ag [.i .u64 bt10.1, .i .u64 bt10.2]), .br true, .br true, .br true, .br true, .br false, .br false, .br false, .br false, .br false, .br false, .br false, .br false, .br false, .br false, .br false, .br false, .br false, .br false, .br false] (fun e => ai (gnomonlaw20_float.c A1) (ai (gnomonlaw20_float.c A2) (ai (dd_Sum.c A3) (ai (gnomonlaw20_bits.c A4) (ai (gnomonlaw20_float.c A5) (ai (dd_Of.c A6) (ai (gnomonlaw20_float.c A7) (ai (dd_Of.c A8) (ai (dd_Div.c A9) (ai (gnomonlaw20_bits.c A10) (ai (q1 c11) (ai (q1 c11) (ai (q1 c11) (ai (q1 c11) (ai (q0 c12) (ai (q0 c12) (ai (q0 c12) (ai (q0 c12) (ai ff (ai ff (ai ff (ai ff (ai ff (ai ff (ai ff (ai ff (ai ff (ai ff (ai ff e))))))))))))))))))))))))))))) (by kernel_rfl)
 ·have h := si h; subst h
  exact pth Tryd.func8 [.r (.s (.fl .f64 t1)), .r (.s (.fl .f64 t2)), .r (.ag [.fl .f64 bt3.1, .fl .f64 bt3.2]), .r (.ag [.i .u64 bt4.1, .i .u64 bt4.2]), .r (.s (.fl .f64 t5)), .r (.ag [.fl .f64 bt6.1, .fl .f64 bt6.2]), .r (.s (.fl .f64 t7)), .r (.ag [.fl .f64 bt8.1, .fl .f64 bt8.2]), .r (.ag [.fl .f64 bt9.1, .fl .f64 bt9.2]), .r (.ag [.i .u64 bt10.1, .i .u64 bt10.2]), .br false, .br false, .br false, .br false, .br false, .br false, .br false, .br false, .br false, .br false, .br false, .br false, .br false, .br false, .br false, .br false, .br false, .br false, .br false] (fun e => ai (gnomonlaw20_float.c A1) (ai (gnomonlaw20_float.c A2) (ai (dd_Sum.c A3) (ai (gnomonlaw20_bits.c A4) (ai (gnomonlaw20_float.c A5) (ai (dd_Of.c A6) (ai (gnomonlaw20_float.c A7) (ai (dd_Of.c A8) (ai (dd_Div.c A9) (ai (gnomonlaw20_bits.c A10) (ai (q0 c11) (ai (q0 c11) (ai (q0 c11) (ai (q0 c11) (ai ff (ai ff (ai ff (ai ff (ai ff (ai ff (ai ff (ai ff (ai ff (ai ff (ai ff (ai ff (ai ff (ai ff (ai ff e))))))))))))))))))))))))))))) (by kernel_rfl)
end Go.Proofs.YtapikmfckpgjoaaDoor.PLib
end
section
set_option linter.unusedVariables false
namespace Go.Proofs.YtapikmfckpgjoaaDoor.DdWi
open Go.RowKit Go.Proofs.YtapikmfckpgjoaaDoorW.PrintWords Go.Proofs.YtapikmfckpgjoaaDoorW.PrintMore Go.Proofs.YtapikmfckpgjoaaDoor.Num Go.Proofs.YtapikmfckpgjoaaDoor.PLib Go.Proofs.YtapikmfckpgjoaaDoor.Ref Go.Proofs.YtapikmfckpgjoaaDoor.GTh Go.Proofs.YtapikmfckpgjoaaDoor.Given Go.Proofs.YtapikmfckpgjoaaDoor.Rp1 Go.Proofs.YtapikmfckpgjoaaDoor.Rp2 Go.Proofs.YtapikmfckpgjoaaDoor.Rp3 Go.Proofs.YtapikmfckpgjoaaDoor.Rp4 Go.Proofs.YtapikmfckpgjoaaDoor.Rp5 Go.Proofs.YtapikmfckpgjoaaDoor.Rp7 Go.Proofs.YtapikmfckpgjoaaDoor.BinLaw Go.Proofs.YtapikmfckpgjoaaDoor.Fm8 Go.Proofs.YtapikmfckpgjoaaDoor.Rnd Go.Proofs.YtapikmfckpgjoaaDoor.Px Go.Proofs.YtapikmfckpgjoaaDoor.DdB Go.Proofs.YtapikmfckpgjoaaDoor.DdV Go.Proofs.YtapikmfckpgjoaaDoor.DdE
theorem wi_awake : gnomonlaw20_awake.f = some true := by decide +kernel
theorem wi_float (a : Nat) : gnomonlaw20_float.f (a : Int) = some a := by
 unfold gnomonlaw20_float.f
 rw [Int.toNat_natCast]
theorem wi_pair (a b : Nat) : gnomonlaw20_pair.f (a : Int) (b : Int) = some (a, b) := by
 unfold gnomonlaw20_pair.f
 rw [wi_float, wi_float]; rfl
theorem wi_u64 {a : Int} (w : (Lit.int .u64 a).wf = true) : ∃ n : Nat, a = (n : Int) ∧ n < 18446744073709551616 := by
 have e1 : IntKind.u64.min = 0 := rfl
 have e2 : IntKind.u64.max = 18446744073709551615 := rfl
 have h : IntKind.u64.min ≤ a ∧ a ≤ IntKind.u64.max := by simpa [Lit.wf] using w
 exact ⟨a.toNat, by omega, by omega⟩
end Go.Proofs.YtapikmfckpgjoaaDoor.DdWi
end
section
namespace Go.Proofs.YtapikmfckpgjoaaDoor.PRef
open Go.RowKit Go.Proofs.YtapikmfckpgjoaaDoorW.PrintWords Go.Proofs.YtapikmfckpgjoaaDoorW.PrintLast Go.Proofs.YtapikmfckpgjoaaDoorW.PrintMore Go.Proofs.YtapikmfckpgjoaaDoor.Given Go.Proofs.YtapikmfckpgjoaaDoor.GTab
attribute [local go_sem] max2_int min2_int max_two min_two max_three min_three max_four min_four   -- for this text's walks alone
set_option linter.unusedVariables false
set_option linter.unusedSimpArgs false
def errW : Option Int → Value
 | none => .nilIface
 | some c => .iface 0 (.int .i64 c)
theorem errW_none : errW none = .nilIface := rfl
theorem errW_some (c : Int) : errW (some c) = .iface 0 (.int .i64 c) := rfl
theorem info141 : (Tryd.prog.info? 141).map (fun i => (i.zero, i.size, i.bytes)) = some (some (.int .u32 0), 1, 4) := by kernel_rfl
end Go.Proofs.YtapikmfckpgjoaaDoor.PRef
end
