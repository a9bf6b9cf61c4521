/- Double-doubles in whole numbers: the quick sum, sums, products and quotients, their errors; the quotient of two floats. Plain Lean; no program in sight. No condition. -/
import Derived.Test.YtapikmfckpgjoaaDoorKDdOrderFl
set_option linter.unusedVariables false
namespace Fl
open Ieee
theorem twice {a b : Nat} {v w : Int} (h : 2^54 * (v - w).natAbs ≤ w.natAbs) : v.natAbs ≤ 2 * w.natAbs := by omega
end Fl
