/- Layer 9's operands and what is reckoned with them: plain Lean over the functions. Conditions: formats 32 and 64; sizes as told. -/
import Derived.Test.YtokoadgahflafaaGreatDoorKSoftFixedRp7
import Derived.Test.YtokoadgahflafaaGreatDoorKSoftFixedRnd
import Derived.Test.YtokoadgahflafaaGreatDoorKSoftFixedPxOp
import Derived.Test.YtokoadgahflafaaGreatDoorKSoftFixedPxL2
import Derived.Test.YtokoadgahflafaaGreatDoorKSoftFixedPxL3
import Derived.Test.YtokoadgahflafaaGreatDoorKSoftFixedPxL1
import Derived.Test.YtokoadgahflafaaGreatDoorKSoftFixedPxS0
import Derived.Test.YtokoadgahflafaaGreatDoorKSoftFixedPxR0
set_option linter.unusedVariables false
namespace Go.Proofs.YtokoadgahflafaaGreatDoor.Sf1
open Go.RowKit Go.Proofs.YtokoadgahflafaaGreatDoorW.PrintWords Go.Proofs.YtokoadgahflafaaGreatDoorW.PrintMore Go.Proofs.YtokoadgahflafaaGreatDoor.Num Go.Proofs.YtokoadgahflafaaGreatDoor.PLib Go.Proofs.YtokoadgahflafaaGreatDoor.Ref Go.Proofs.YtokoadgahflafaaGreatDoor.GTh Go.Proofs.YtokoadgahflafaaGreatDoor.Given Go.Proofs.YtokoadgahflafaaGreatDoor.Rp1 Go.Proofs.YtokoadgahflafaaGreatDoor.Rp2 Go.Proofs.YtokoadgahflafaaGreatDoor.Rp3 Go.Proofs.YtokoadgahflafaaGreatDoor.Rp4 Go.Proofs.YtokoadgahflafaaGreatDoor.Rp7 Go.Proofs.YtokoadgahflafaaGreatDoor.BinLaw Go.Proofs.YtokoadgahflafaaGreatDoor.Fm8 Go.Proofs.YtokoadgahflafaaGreatDoor.Rnd Go.Proofs.YtokoadgahflafaaGreatDoor.Px
theorem ev_eq {α : Type} {o : Option α} {v : α} (h : o = some v) : Ev (fun _ => o) v := by rw [h]; exact Ev.now _
theorem bl_mul2 {a b i j : Nat} (ha : bl a ≤ i) (hb : bl b ≤ j) : bl (a * b) ≤ i + j := by
 refine bl_le_of_lt ?_
 rw [Nat.pow_add]
 have h1 := bl_le_iff.1 ha
 have h2 := bl_le_iff.1 hb
 exact Nat.lt_of_lt_of_le (Nat.mul_lt_mul_of_lt_of_le h1 (Nat.le_of_lt h2) (Nat.two_pow_pos j)) (Nat.le_refl _)
end Go.Proofs.YtokoadgahflafaaGreatDoor.Sf1
