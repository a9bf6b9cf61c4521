/- The question whether a double-double lies within 2^-e of an exact number: plain Lean over the functions. Condition: bounded numbers.  -/
import Derived.Test.YtapikmfckpgjoaaGreatDoorKDdMulsDdE
import Derived.Test.YtapikmfckpgjoaaGreatDoorKDdMulsPxL2
import Derived.Test.YtapikmfckpgjoaaGreatDoorKDdMulsPxL1
import Derived.Test.YtapikmfckpgjoaaGreatDoorKDdMulsRp5
import Derived.Test.YtapikmfckpgjoaaGreatDoorProg
import Derived.Test.YtapikmfckpgjoaaGreatDoorKDdMulsGP
import Derived.Below
import Derived.Deep.Draws
import Derived.Deep.AppendLies
import Derived.Maps.AppendAt
import Derived.OwnWalk
import Derived.Laws.BytesArg
import Derived.Laws.MakeOwn
import Derived.Laws.OwnMore
import Derived.Deep.OwnRows
import Derived.Tactics
import Derived.Lib.ConvBytes
import Derived.Laws.Slices
import Derived.WalkKit
import Derived.KernelRfl
import Derived.RowKit3
import Derived.Deep.LoopGhost
import Derived.Deep.QuietTactic
import Derived.BigQuiet
import Derived.WideLaws
import Derived.Deep.DeepCutAuto
import Derived.Deep.CutBlock
import Derived.Deep.RegionHeld3
import Derived.Laws.Rows
import Derived.Lib.AppendStr
import Derived.ArgAppend
import Derived.Laws.IdiomCopy
import Derived.OrdersHeld
import Derived.Laws.BitsLemmas
import Derived.RowKit
import Derived.Test.YtapikmfckpgjoaaGreatDoorKDdMulsWWords
import Derived.Test.YtapikmfckpgjoaaGreatDoorKDdMulsWLast
import Derived.Test.YtapikmfckpgjoaaGreatDoorKDdMulsWMore
import Derived.Test.YtapikmfckpgjoaaGreatDoorKDdMulsWGuard
import Derived.Laws.StructEq
import Derived.Test.YtapikmfckpgjoaaGreatDoorKDdMulsWMine
section
set_option linter.unusedVariables false
namespace Go.Proofs.YtapikmfckpgjoaaGreatDoor.DdWi
open Go.RowKit Go.Proofs.YtapikmfckpgjoaaGreatDoorW.PrintWords Go.Proofs.YtapikmfckpgjoaaGreatDoorW.PrintMore Go.Proofs.YtapikmfckpgjoaaGreatDoor.Num Go.Proofs.YtapikmfckpgjoaaGreatDoor.PLib Go.Proofs.YtapikmfckpgjoaaGreatDoor.Ref Go.Proofs.YtapikmfckpgjoaaGreatDoor.GTh Go.Proofs.YtapikmfckpgjoaaGreatDoor.Given Go.Proofs.YtapikmfckpgjoaaGreatDoor.Rp1 Go.Proofs.YtapikmfckpgjoaaGreatDoor.Rp2 Go.Proofs.YtapikmfckpgjoaaGreatDoor.Rp3 Go.Proofs.YtapikmfckpgjoaaGreatDoor.Rp4 Go.Proofs.YtapikmfckpgjoaaGreatDoor.Rp5 Go.Proofs.YtapikmfckpgjoaaGreatDoor.Rp7 Go.Proofs.YtapikmfckpgjoaaGreatDoor.BinLaw Go.Proofs.YtapikmfckpgjoaaGreatDoor.Fm8 Go.Proofs.YtapikmfckpgjoaaGreatDoor.Rnd Go.Proofs.YtapikmfckpgjoaaGreatDoor.Px Go.Proofs.YtapikmfckpgjoaaGreatDoor.DdB Go.Proofs.YtapikmfckpgjoaaGreatDoor.DdV Go.Proofs.YtapikmfckpgjoaaGreatDoor.DdE
theorem wi_awake : gnomonlaw20_awake.f = some true := by decide +kernel
theorem wi_float (a : Nat) : gnomonlaw20_float.f (a : Int) = some a := by
 unfold gnomonlaw20_float.f
 rw [Int.toNat_natCast]
theorem wi_pair (a b : Nat) : gnomonlaw20_pair.f (a : Int) (b : Int) = some (a, b) := by
 unfold gnomonlaw20_pair.f
 rw [wi_float, wi_float]; rfl
theorem wi_u64 {a : Int} (w : (Lit.int .u64 a).wf = true) : ∃ n : Nat, a = (n : Int) ∧ n < 18446744073709551616 := by
 have e1 : IntKind.u64.min = 0 := rfl
 have e2 : IntKind.u64.max = 18446744073709551615 := rfl
 have h : IntKind.u64.min ≤ a ∧ a ≤ IntKind.u64.max := by simpa [Lit.wf] using w
 exact ⟨a.toNat, by omega, by omega⟩
theorem bl_scale {A n : Nat} : bl (A * 2^n) ≤ bl A + n := by
 by_cases c : A = 0
 ·rw [c, Nat.zero_mul]; rw [show bl 0 = 0 from rfl]; omega
 ·rw [bl_mul _ _ c]; exact Nat.le_refl _
end Go.Proofs.YtapikmfckpgjoaaGreatDoor.DdWi
end
section
namespace Go.Proofs.YtapikmfckpgjoaaGreatDoor.PRef
open Go.RowKit Go.Proofs.YtapikmfckpgjoaaGreatDoorW.PrintWords Go.Proofs.YtapikmfckpgjoaaGreatDoorW.PrintLast Go.Proofs.YtapikmfckpgjoaaGreatDoorW.PrintMore Go.Proofs.YtapikmfckpgjoaaGreatDoor.Given Go.Proofs.YtapikmfckpgjoaaGreatDoor.GTab
attribute [local go_sem] max2_int min2_int max_two min_two max_three min_three max_four min_four   -- for this text's walks alone
set_option linter.unusedVariables false
set_option linter.unusedSimpArgs false
def errW : Option Int → Value
 | none => .nilIface
 | some c => .iface 0 (.int .i64 c)
theorem errW_none : errW none = .nilIface := rfl
theorem errW_some (c : Int) : errW (some c) = .iface 0 (.int .i64 c) := rfl
theorem info96 : (Tryz.prog.info? 96).map (fun i => (i.zero, i.size, i.bytes)) = some (some (.int .u32 0), 1, 4) := by kernel_rfl
end Go.Proofs.YtapikmfckpgjoaaGreatDoor.PRef
end
