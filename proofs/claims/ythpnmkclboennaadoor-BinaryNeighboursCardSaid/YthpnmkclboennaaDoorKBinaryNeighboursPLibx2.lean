/- Words of this session's own for walks written by program: a copy into a row of the call's own; a make with a capacity of its own. Lean checks them; nothing here is trusted.  -/
import Derived.Test.YthpnmkclboennaaDoorKBinaryNeighboursWTab
import Derived.Test.YthpnmkclboennaaDoorKBinaryNeighboursWWords
import Derived.Test.YthpnmkclboennaaDoorKBinaryNeighboursWLast
import Derived.Laws.CopyOwn
import Derived.Test.YthpnmkclboennaaDoorProg
import Derived.Below
import Derived.Deep.Draws
import Derived.Deep.AppendLies
import Derived.Maps.AppendAt
import Derived.OwnWalk
import Derived.Laws.BytesArg
import Derived.Laws.MakeOwn
import Derived.Laws.OwnMore
import Derived.Deep.OwnRows
import Derived.Tactics
import Derived.Lib.ConvBytes
import Derived.Laws.Slices
import Derived.WalkKit
import Derived.KernelRfl
import Derived.RowKit3
import Derived.Deep.LoopGhost
import Derived.Deep.QuietTactic
import Derived.BigQuiet
import Derived.WideLaws
import Derived.Deep.DeepCutAuto
import Derived.Deep.CutBlock
import Derived.Deep.RegionHeld3
import Derived.Laws.Rows
import Derived.Lib.AppendStr
import Derived.ArgAppend
import Derived.Laws.IdiomCopy
import Derived.OrdersHeld
import Derived.Laws.BitsLemmas
import Derived.RowKit
import Derived.Test.YthpnmkclboennaaDoorKBinaryNeighboursWN
import Derived.Test.YthpnmkclboennaaDoorKBinaryNeighboursWEqStruct
import Derived.Test.YthpnmkclboennaaDoorKBinaryNeighboursWRepsOne
import Derived.Test.YthpnmkclboennaaDoorKBinaryNeighboursWMore
section
namespace Go.Proofs.YthpnmkclboennaaDoorW.PrintLast
def up (b : Nat → Bool) (i : Nat) : Nat → Bool := fun j => if j = i then true else b j
end Go.Proofs.YthpnmkclboennaaDoorW.PrintLast
end
section
namespace Go.Proofs.YthpnmkclboennaaDoorW.PrintWords
open Go.RowKit
section
variable {P : Program} {ops : Array Oper} {rest : List Oper} {o : Oper} {a : Act} {Q : Exit → Act → World → Prop} {W : World}
theorem gate_guard (hw : Region.wanted o (yielded ops a.tmps) = true) (h : wpList P ops Q ({ o with guard := none } :: rest) a W) : wpList P ops Q (o :: rest) a W := by
  have h1 : Region.wanted { o with guard := none } (yielded ops a.tmps) = true := rfl
  unfold wpList at h ⊢
  rw [if_pos h1] at h
  rw [if_pos hw]
  exact h
end
end Go.Proofs.YthpnmkclboennaaDoorW.PrintWords
end
section
namespace Go.Proofs.YthpnmkclboennaaDoorW.PrintWords
open Go.RowKit
set_option linter.unusedVariables false
def cpy {α : Type} (xs ys : List α) : List α := ys.take xs.length ++ xs.drop ys.length
end Go.Proofs.YthpnmkclboennaaDoorW.PrintWords
end
section
namespace Go.Proofs.YthpnmkclboennaaDoor.PLib
open Go.RowKit Go.Proofs.YthpnmkclboennaaDoorW.PrintWords Go.Proofs.YthpnmkclboennaaDoorW.PrintLast Go.Proofs.YthpnmkclboennaaDoorW.PrintMore
attribute [local go_sem] max2_int min2_int max_two min_two max_three min_three max_four min_four   -- for this text's walks alone
set_option linter.unusedVariables false
set_option linter.unusedSimpArgs false
def errW : Option Int → Value
  | none => .nilIface
  | some c => .iface 0 (.int .i64 c)
theorem errW_none : errW none = .nilIface := rfl
theorem errW_some (c : Int) : errW (some c) = .iface 0 (.int .i64 c) := rfl
end Go.Proofs.YthpnmkclboennaaDoor.PLib
end
section
namespace Go.Proofs.YthpnmkclboennaaDoor.PLib
open Go.RowKit Go.Proofs.YthpnmkclboennaaDoorW.PrintWords Go.Proofs.YthpnmkclboennaaDoorW.PrintLast Go.Proofs.YthpnmkclboennaaDoorW.PrintMore
attribute [local go_sem] max2_int min2_int max_two min_two max_three min_three max_four min_four   -- for this text's walks alone
set_option linter.unusedVariables false
set_option linter.unusedSimpArgs false
def gnomonref07_Cut.f (a0_0 : Int) (a0_1 : Int) (a0_2 : Int) (a0_3 : Int) (a0_4 : Int) (a0_5 : Int) (a1 : Int) : Option (Bool × Int) := if a0_0 = 0 then (none) else (some (decide (a1 ≥ a0_0), Int.tmod a1 a0_0))
mutual
def gnomonref01_Norm.l0 : Nat → List Int → Int → Option (List Int)
  | 0, _, _ => none
  | k + 1, x0, x3 => if x3 > 0 then (if 0 ≤ (wrap64 (x3 - 1)) then (if (wrap64 (x3 - 1)) < (x0.length : Int) then (gnomonref01_Norm.j1 k x0 x3 ((rd x0 (wrap64 (x3 - 1))) == 0)) else (none)) else (none)) else (gnomonref01_Norm.j1 k x0 x3 false)
def gnomonref01_Norm.j1 : Nat → List Int → Int → Bool → Option (List Int)
  | 0, _, _, _ => none
  | k + 1, x0, x3, x16 => if x16 = true then (gnomonref01_Norm.l0 k x0 (wrap64 (x3 - 1))) else (if 0 ≤ x3 then (if (x3 : Int).toNat ≤ 70368744177664 then (if x3 ≤ (x0.length : Int) then (some (cpy (List.replicate (x3 : Int).toNat 0) (x0.take (x3 : Int).toNat))) else (none)) else (none)) else (none))
end
def gnomonref01_Norm.f (k : Nat) (l0 : List Int) : Option (List Int) := gnomonref01_Norm.l0 k l0 (l0.length : Int)
def gnomonref01_MulSmall.l0 : Nat → List Int → Int → List Int → Int → Int → Option (List Int)
  | 0, _, _, _, _, _ => none
  | k + 1, x0, x1, x7, x8, x9 => if x9 < (x0.length : Int) then (if 0 ≤ x9 then (if x7.length < 35184372088832 then (gnomonref01_MulSmall.l0 k x0 x1 (x7 ++ [(Go.bits .and .u64 (IntKind.u64.wrap (x8 + (IntKind.u64.wrap ((IntKind.u64.wrap (rd x0 x9)) * (IntKind.u64.wrap (x1)))))) 4294967295) % 4294967296]) ((IntKind.u64.wrap (x8 + (IntKind.u64.wrap ((IntKind.u64.wrap (rd x0 x9)) * (IntKind.u64.wrap (x1)))))) / 4294967296) (wrap64 (x9 + 1))) else (none)) else (none)) else (if x7.length < 35184372088832 then ((gnomonref01_Norm.f k (x7 ++ [(x8) % 4294967296])).bind fun t130 => (some t130)) else (none))
def gnomonref01_MulSmall.f (k : Nat) (l0 : List Int) (a1 : Int) (a2 : Int) : Option (List Int) := if 0 ≤ (wrap64 ((l0.length : Int) + 1)) then (if (wrap64 ((l0.length : Int) + 1) : Int).toNat ≤ 70368744177664 then (gnomonref01_MulSmall.l0 k l0 a1 (List.replicate 0 0) (IntKind.u64.wrap (a2)) 0) else (none)) else (none)
def gnomonref01_Shl.j0 : Nat → List Int → Int → Bool → Option (List Int)
  | 0, _, _, _ => none
  | k + 1, x0, x1, x12 => if x12 = true then ((gnomonref01_Norm.f k x0).bind fun t133 => (some t133)) else (if 0 ≤ (wrap64 (Int.tdiv x1 32)) then (if (wrap64 (Int.tdiv x1 32)) ≤ (wrap64 ((wrap64 ((wrap64 (Int.tdiv x1 32)) + (x0.length : Int))) + 1)) then (if (wrap64 ((wrap64 ((wrap64 (Int.tdiv x1 32)) + (x0.length : Int))) + 1) : Int).toNat ≤ 70368744177664 then ((some (List.replicate (wrap64 (Int.tdiv x1 32) : Int).toNat 0 : List Int)).bind fun y136 => (if 0 ≤ (Int.tmod x1 32) then ((gnomonref01_MulSmall.f k x0 (shl .u32 1 (Int.tmod x1 32)) 0).bind fun t139 => (if y136.length + t139.length < 35184372088832 then ((gnomonref01_Norm.f k (y136 ++ t139)).bind fun t145 => (some t145)) else (none))) else (none))) else (none)) else (none)) else (none))
end Go.Proofs.YthpnmkclboennaaDoor.PLib
end
