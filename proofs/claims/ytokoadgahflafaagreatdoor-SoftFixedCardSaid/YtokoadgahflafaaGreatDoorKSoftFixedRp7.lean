/- Sums, differences, twins and scaled numbers of dyadics: their values. Plain Lean over the printed functions. Conditions: values of at most 500,000 bits above the lowest unit. -/
import Derived.Test.YtokoadgahflafaaGreatDoorKSoftFixedRp4
import Derived.Test.YtokoadgahflafaaGreatDoorKSoftFixedPxL1
import Derived.Test.YtokoadgahflafaaGreatDoorKSoftFixedPxL0
set_option linter.unusedVariables false
namespace Go.Proofs.YtokoadgahflafaaGreatDoor.Rp7
open Go.RowKit Go.Proofs.YtokoadgahflafaaGreatDoorW.PrintWords Go.Proofs.YtokoadgahflafaaGreatDoorW.PrintMore Go.Proofs.YtokoadgahflafaaGreatDoor.Num Go.Proofs.YtokoadgahflafaaGreatDoor.PLib Go.Proofs.YtokoadgahflafaaGreatDoor.Ref Go.Proofs.YtokoadgahflafaaGreatDoor.GTh Go.Proofs.YtokoadgahflafaaGreatDoor.Given Go.Proofs.YtokoadgahflafaaGreatDoor.Rp1 Go.Proofs.YtokoadgahflafaaGreatDoor.Rp2 Go.Proofs.YtokoadgahflafaaGreatDoor.Rp3 Go.Proofs.YtokoadgahflafaaGreatDoor.Rp4 Go.Proofs.YtokoadgahflafaaGreatDoor.BinLaw Go.Proofs.YtokoadgahflafaaGreatDoor.Fm8 Go.Proofs.YtokoadgahflafaaGreatDoor.Rnd
def sv (neg : Bool) (m : Nat) : Int := if neg then -(m : Int) else (m : Int)
theorem nl_of_bl {m : Nat} (h : bl m ≤ 524288) : nl m ≤ 8192 := by unfold nl; omega
end Go.Proofs.YtokoadgahflafaaGreatDoor.Rp7
