/- What double-doubles' sums, products and quotients answer, in whole numbers of units: relations of the floats' operations, and their errors. Conditions: fit numbers. Contracts of Accept's callees: math.Abs, dd.finite, dd.Form. Conditions: words below 2^64. -/
import Derived.Test.YtapikmfckpgjoaaDoorKDdOrderFl
import Derived.WalkKit
import Derived.WalkLawsBesides
import Derived.Laws.Externs
import Derived.Deep.Draws
import Derived.Test.YtapikmfckpgjoaaDoorProg
import Derived.Test.YtapikmfckpgjoaaDoorKDdOrderFlDd
import Derived.Test.YtapikmfckpgjoaaDoorKDdOrderFlCmp
import Derived.Laws.BitsAllLaws
section
set_option linter.unusedVariables false
namespace Go.Proofs.YtapikmfckpgjoaaDoor.DdB
open Go Go.RowKit Fl Ieee
def V (h l : Nat) : Int := U h + U l
end Go.Proofs.YtapikmfckpgjoaaDoor.DdB
end
section
namespace Go.Proofs.YtapikmfckpgjoaaDoor.AccW
open Go.RowKit Fl
theorem andNot_sz {x : Nat} (hx : x < 18446744073709551616) : bits .andNot .u64 (x : Int) 9223372036854775808 = ((sz x : Nat) : Int) := by
 have h := u64_andNot_nat x 9223372036854775808 hx (by decide)
 have e : 18446744073709551615 - 9223372036854775808 = 2^63 - 1 := by decide
 rw [e, Nat.and_two_pow_sub_one_eq_mod] at h
 exact h
end Go.Proofs.YtapikmfckpgjoaaDoor.AccW
end
