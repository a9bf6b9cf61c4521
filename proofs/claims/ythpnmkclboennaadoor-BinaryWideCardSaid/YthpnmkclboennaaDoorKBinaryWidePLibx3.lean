import Derived.Test.YthpnmkclboennaaDoorKBinaryWidePLibx2
namespace Go.Proofs.YthpnmkclboennaaDoor.PLib
open Go.RowKit Go.Proofs.YthpnmkclboennaaDoorW.PrintWords Go.Proofs.YthpnmkclboennaaDoorW.PrintLast Go.Proofs.YthpnmkclboennaaDoorW.PrintMore
attribute [local go_sem] max2_int min2_int max_two min_two max_three min_three max_four min_four   -- for this text's walks alone
set_option linter.unusedVariables false
set_option linter.unusedSimpArgs false
def gnomonref01_Bit.j0 : Nat → List Int → Int → Bool → Option (Int)
  | 0, _, _, _ => none
  | k + 1, x0, x1, x13 => if x13 = true then (some 0) else (if 0 ≤ (wrap64 (Int.tdiv x1 32)) then (if (wrap64 (Int.tdiv x1 32)) < (x0.length : Int) then (if 0 ≤ (Int.tmod x1 32) then (some (wrap64 (Go.bits .and .u32 (shr .u32 (rd x0 (wrap64 (Int.tdiv x1 32))) (Int.tmod x1 32)) 1))) else (none)) else (none)) else (none))
def gnomonref01_Bit.f (k : Nat) (l0 : List Int) (a1 : Int) : Option (Int) := if a1 < 0 then (gnomonref01_Bit.j0 k l0 a1 true) else (gnomonref01_Bit.j0 k l0 a1 (decide ((wrap64 (Int.tdiv a1 32)) ≥ (l0.length : Int))))
mutual
def gnomonref01_Zeros.l0 : Nat → List Int → Int → Option (Int)
  | 0, _, _ => none
  | k + 1, x0, x3 => if (wrap64 (Int.tdiv x3 32)) < (x0.length : Int) then (if 0 ≤ (wrap64 (Int.tdiv x3 32)) then (gnomonref01_Zeros.j1 k x0 x3 ((rd x0 (wrap64 (Int.tdiv x3 32))) == 0)) else (none)) else (gnomonref01_Zeros.j1 k x0 x3 false)
def gnomonref01_Zeros.j1 : Nat → List Int → Int → Bool → Option (Int)
  | 0, _, _, _ => none
  | k + 1, x0, x3, x19 => if x19 = true then (gnomonref01_Zeros.l0 k x0 (wrap64 (x3 + 32))) else (gnomonref01_Zeros.l1 k x0 x3)
def gnomonref01_Zeros.l1 : Nat → List Int → Int → Option (Int)
  | 0, _, _ => none
  | k + 1, x0, x3 => (gnomonref01_Bit.f k x0 x3).bind fun t167 => (if t167 = 0 then (gnomonref01_Zeros.l1 k x0 (wrap64 (x3 + 1))) else (some x3))
end
def gnomonref01_Zeros.f (k : Nat) (l0 : List Int) : Option (Int) := if (l0.length : Int) = 0 then (some 0) else (gnomonref01_Zeros.l0 k l0 0)
end Go.Proofs.YthpnmkclboennaaDoor.PLib
