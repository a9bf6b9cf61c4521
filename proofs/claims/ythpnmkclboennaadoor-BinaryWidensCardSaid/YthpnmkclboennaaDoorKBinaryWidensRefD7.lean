/- The reference's whole numbers with a sign (layer 7's seat): making, adding, sign. Plain Lean over the printed functions. Conditions: numbers of less than 2^38 digits. -/
import Derived.Test.YthpnmkclboennaaDoorKBinaryWidensRefC
import Derived.Test.YthpnmkclboennaaDoorKBinaryWidensPLibx7
import Derived.Test.YthpnmkclboennaaDoorKBinaryWidensPLibx3
import Derived.Test.YthpnmkclboennaaDoorKBinaryWidensPLibx5
namespace Go.Proofs.YthpnmkclboennaaDoor.Ref
open Go.RowKit Go.Proofs.YthpnmkclboennaaDoorW.PrintWords Go.Proofs.YthpnmkclboennaaDoorW.PrintMore Go.Proofs.YthpnmkclboennaaDoor.Num Go.Proofs.YthpnmkclboennaaDoor.PLib
def Zs (z : Int) : Prop := (dg z.natAbs).length < 274877906944
theorem Zs_of {z : Int} {k : Nat} (h : z.natAbs < 2^k) (hk : k ≤ 8796093022000) : Zs z := by
  unfold Zs
  have h2 : z.natAbs < B^(k / 32 + 1) := by
    rw [pw_B]
    exact Nat.lt_of_lt_of_le h (Nat.pow_le_pow_right (by decide) (by omega))
  have := dg_len_le h2
  omega
theorem pair_some {α β : Type} {g : Nat → Option (α × β)} {r : α × β} (h : Ev g r) : Ev (fun k => (g k).bind fun t => some (t.1, t.2)) r := Ev.bind h (Ev.now _)
theorem dg_len_bits {n k : Nat} (h : n < 2^k) (hk : k ≤ 8796093022000) : (dg n).length < 274877906944 := by
  have := Zs_of (z := (n : Int)) (k := k) (by simpa using h) hk
  unfold Zs at this; simpa using this
end Go.Proofs.YthpnmkclboennaaDoor.Ref
