/- The reference's bits and noughts at the end of a number (layer 7's seat). Plain Lean over the printed functions. Conditions: numbers of less than 2^33 digits. -/
import Derived.Test.YthpnmkclboennaaDoorKBinaryWidensRefD7
import Derived.Test.YthpnmkclboennaaDoorKBinaryWidensPLibx3
namespace Go.Proofs.YthpnmkclboennaaDoor.Ref
open Go.RowKit Go.Proofs.YthpnmkclboennaaDoorW.PrintWords Go.Proofs.YthpnmkclboennaaDoorW.PrintMore Go.Proofs.YthpnmkclboennaaDoor.Num Go.Proofs.YthpnmkclboennaaDoor.PLib
theorem bl_mul (m d : Nat) (h : m ≠ 0) : bl (m * 2^d) = bl m + d := by
  have h1 := bl_lt m
  have h2 := bl_ge h
  have h3 : bl m ≠ 0 := by unfold bl; rw [if_neg h]; omega
  apply bl_of
  · rw [Nat.pow_add]; exact Nat.mul_lt_mul_of_pos_right h1 (Nat.two_pow_pos d)
  · right
    rw [show bl m + d - 1 = bl m - 1 + d from by omega, Nat.pow_add]
    exact Nat.mul_le_mul_right _ h2
end Go.Proofs.YthpnmkclboennaaDoor.Ref
