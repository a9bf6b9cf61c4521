/- Layer 9's operands and what is reckoned with them: plain Lean over the functions. Conditions: formats 32 and 64; sizes as told. Sums, products and squares of double-doubles against the exact ones of layer 5; MulFloat is a product: the plain laws of DdByDyadics and DdFloats. Plain Lean over the functions. Condition: words. -/
import Derived.Test.YtapikmfckpgjoaaGreatDoorKDdMulsRp7
import Derived.Test.YtapikmfckpgjoaaGreatDoorKDdMulsSq
import Derived.Test.YtapikmfckpgjoaaGreatDoorKDdMulsGA
import Derived.Test.YtapikmfckpgjoaaGreatDoorKDdMulsPxL1
import Derived.Test.YtapikmfckpgjoaaGreatDoorKDdMulsPRefx0
import Derived.Test.YtapikmfckpgjoaaGreatDoorKDdMulsDz
import Derived.Test.YtapikmfckpgjoaaGreatDoorKDdMulsRp5
import Derived.Test.YtapikmfckpgjoaaGreatDoorKDdMulsPxL2
import Derived.Test.YtapikmfckpgjoaaGreatDoorKDdMulsPxZ0
import Derived.Test.YtapikmfckpgjoaaGreatDoorKDdMulsPxRef
section
set_option linter.unusedVariables false
namespace Go.Proofs.YtapikmfckpgjoaaGreatDoor.Sf1
open Go.RowKit Go.Proofs.YtapikmfckpgjoaaGreatDoorW.PrintWords Go.Proofs.YtapikmfckpgjoaaGreatDoorW.PrintMore Go.Proofs.YtapikmfckpgjoaaGreatDoor.Num Go.Proofs.YtapikmfckpgjoaaGreatDoor.PLib Go.Proofs.YtapikmfckpgjoaaGreatDoor.Ref Go.Proofs.YtapikmfckpgjoaaGreatDoor.GTh Go.Proofs.YtapikmfckpgjoaaGreatDoor.Given Go.Proofs.YtapikmfckpgjoaaGreatDoor.Rp1 Go.Proofs.YtapikmfckpgjoaaGreatDoor.Rp2 Go.Proofs.YtapikmfckpgjoaaGreatDoor.Rp3 Go.Proofs.YtapikmfckpgjoaaGreatDoor.Rp4 Go.Proofs.YtapikmfckpgjoaaGreatDoor.Rp5 Go.Proofs.YtapikmfckpgjoaaGreatDoor.Rp7 Go.Proofs.YtapikmfckpgjoaaGreatDoor.BinLaw Go.Proofs.YtapikmfckpgjoaaGreatDoor.Fm8 Go.Proofs.YtapikmfckpgjoaaGreatDoor.Rnd Go.Proofs.YtapikmfckpgjoaaGreatDoor.Sq
theorem bl_mul2 {a b i j : Nat} (ha : bl a ≤ i) (hb : bl b ≤ j) : bl (a * b) ≤ i + j := by
 refine bl_le_of_lt ?_
 rw [Nat.pow_add]
 have h1 := bl_le_iff.1 ha
 have h2 := bl_le_iff.1 hb
 exact Nat.lt_of_lt_of_le (Nat.mul_lt_mul_of_lt_of_le h1 (Nat.le_of_lt h2) (Nat.two_pow_pos j)) (Nat.le_refl _)
end Go.Proofs.YtapikmfckpgjoaaGreatDoor.Sf1
end
section
set_option linter.unusedVariables false
namespace Go.Proofs.YtapikmfckpgjoaaGreatDoor.DdByDyadicsL
open Go.RowKit Go.Proofs.YtapikmfckpgjoaaGreatDoorW.PrintWords Go.Proofs.YtapikmfckpgjoaaGreatDoorW.PrintMore Go.Proofs.YtapikmfckpgjoaaGreatDoor.Num Go.Proofs.YtapikmfckpgjoaaGreatDoor.PLib Go.Proofs.YtapikmfckpgjoaaGreatDoor.Ref Go.Proofs.YtapikmfckpgjoaaGreatDoor.GTh Go.Proofs.YtapikmfckpgjoaaGreatDoor.Given Go.Proofs.YtapikmfckpgjoaaGreatDoor.Rp1 Go.Proofs.YtapikmfckpgjoaaGreatDoor.Rp2 Go.Proofs.YtapikmfckpgjoaaGreatDoor.Rp3 Go.Proofs.YtapikmfckpgjoaaGreatDoor.Rp4 Go.Proofs.YtapikmfckpgjoaaGreatDoor.Rp5 Go.Proofs.YtapikmfckpgjoaaGreatDoor.Rp7 Go.Proofs.YtapikmfckpgjoaaGreatDoor.BinLaw Go.Proofs.YtapikmfckpgjoaaGreatDoor.Fm8 Go.Proofs.YtapikmfckpgjoaaGreatDoor.Rnd Go.Proofs.YtapikmfckpgjoaaGreatDoor.Px Go.Proofs.YtapikmfckpgjoaaGreatDoor.Sf1 Go.Proofs.YtapikmfckpgjoaaGreatDoor.DdB Go.Proofs.YtapikmfckpgjoaaGreatDoor.DdV Go.Proofs.YtapikmfckpgjoaaGreatDoor.DdE Go.Proofs.YtapikmfckpgjoaaGreatDoor.DdWi
theorem U0 : Fl.U 0 = 0 := by decide
theorem fin0 : Fl.fin 0 := (fin_iff 0).2 (by decide)
theorem of_Frm {x : Nat} (hx : x < 18446744073709551616) (h : Fl.fin x) : Frm x 0 ∧ V x 0 = Fl.U x := by
 refine ⟨⟨hx, by decide, h, fin0, ?_⟩, ?_⟩
 ·rw [U0, Int.add_zero]; exact (Fl.rnI_exact (Fl.U_isF x)).symm
 ·unfold V; rw [U0, Int.add_zero]
end Go.Proofs.YtapikmfckpgjoaaGreatDoor.DdByDyadicsL
end
