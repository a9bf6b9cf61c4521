/- Sums, differences, twins and scaled numbers of dyadics: their values. Plain Lean over the printed functions. Conditions: values of at most 500,000 bits above the lowest unit. -/
import Derived.Test.YtapikmfckpgjoaaGreatDoorKDdMulsRp5
import Derived.Test.YtapikmfckpgjoaaGreatDoorKDdMulsPxL1
set_option linter.unusedVariables false
namespace Go.Proofs.YtapikmfckpgjoaaGreatDoor.Rp7
open Go.RowKit Go.Proofs.YtapikmfckpgjoaaGreatDoorW.PrintWords Go.Proofs.YtapikmfckpgjoaaGreatDoorW.PrintMore Go.Proofs.YtapikmfckpgjoaaGreatDoor.Num Go.Proofs.YtapikmfckpgjoaaGreatDoor.PLib Go.Proofs.YtapikmfckpgjoaaGreatDoor.Ref Go.Proofs.YtapikmfckpgjoaaGreatDoor.GTh Go.Proofs.YtapikmfckpgjoaaGreatDoor.Given Go.Proofs.YtapikmfckpgjoaaGreatDoor.Rp1 Go.Proofs.YtapikmfckpgjoaaGreatDoor.Rp2 Go.Proofs.YtapikmfckpgjoaaGreatDoor.Rp3 Go.Proofs.YtapikmfckpgjoaaGreatDoor.Rp4 Go.Proofs.YtapikmfckpgjoaaGreatDoor.Rp5 Go.Proofs.YtapikmfckpgjoaaGreatDoor.BinLaw Go.Proofs.YtapikmfckpgjoaaGreatDoor.Fm8 Go.Proofs.YtapikmfckpgjoaaGreatDoor.Rnd
def sv (neg : Bool) (m : Nat) : Int := if neg then -(m : Int) else (m : Int)
theorem sv_abs (neg : Bool) (m : Nat) : (sv neg m).natAbs = m := by
 cases neg
 ·show (m : Int).natAbs = m; omega
 ·show (-(m : Int)).natAbs = m; omega
theorem bl_add {a b k : Nat} (ha : bl a ≤ k) (hb : bl b ≤ k) : bl (a + b) ≤ k + 1 := by
 have q1 := Nat.lt_of_lt_of_le (bl_lt a) (Nat.pow_le_pow_right (by decide) ha)
 have q2 := Nat.lt_of_lt_of_le (bl_lt b) (Nat.pow_le_pow_right (by decide) hb)
 exact bl_le_of_lt (by rw [Nat.pow_succ]; omega)
theorem mn_min (a b : Int) : mn a b = min a b := by unfold mn; split <;> omega
end Go.Proofs.YtapikmfckpgjoaaGreatDoor.Rp7
