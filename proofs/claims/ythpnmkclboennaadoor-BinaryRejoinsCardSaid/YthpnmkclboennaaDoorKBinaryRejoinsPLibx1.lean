/- The reference's whole numbers with a sign (layer 7's seat): making, adding, sign. Plain Lean over the printed functions. Conditions: numbers of less than 2^38 digits. The reference's bits and noughts at the end of a number (layer 7's seat). Plain Lean over the printed functions. Conditions: numbers of less than 2^33 digits.  -/
import Derived.Test.YthpnmkclboennaaDoorKBinaryRejoinsRefC
import Derived.Test.YthpnmkclboennaaDoorKBinaryRejoinsPLibx7
import Derived.Test.YthpnmkclboennaaDoorKBinaryRejoinsPLibx3
import Derived.Test.YthpnmkclboennaaDoorKBinaryRejoinsPLibx0
import Derived.Test.YthpnmkclboennaaDoorKBinaryRejoinsPLibx2
section
namespace Go.Proofs.YthpnmkclboennaaDoor.Ref
open Go.RowKit Go.Proofs.YthpnmkclboennaaDoorW.PrintWords Go.Proofs.YthpnmkclboennaaDoorW.PrintMore Go.Proofs.YthpnmkclboennaaDoor.Num Go.Proofs.YthpnmkclboennaaDoor.PLib
def Zs (z : Int) : Prop := (dg z.natAbs).length < 274877906944
theorem Zs_of {z : Int} {k : Nat} (h : z.natAbs < 2^k) (hk : k ≤ 8796093022000) : Zs z := by
  unfold Zs
  have h2 : z.natAbs < B^(k / 32 + 1) := by
    rw [pw_B]
    exact Nat.lt_of_lt_of_le h (Nat.pow_le_pow_right (by decide) (by omega))
  have := dg_len_le h2
  omega
theorem dg_len_bits {n k : Nat} (h : n < 2^k) (hk : k ≤ 8796093022000) : (dg n).length < 274877906944 := by
  have := Zs_of (z := (n : Int)) (k := k) (by simpa using h) hk
  unfold Zs at this; simpa using this
end Go.Proofs.YthpnmkclboennaaDoor.Ref
end
section
namespace Go.Proofs.YthpnmkclboennaaDoor.Ref
open Go.RowKit Go.Proofs.YthpnmkclboennaaDoorW.PrintWords Go.Proofs.YthpnmkclboennaaDoorW.PrintMore Go.Proofs.YthpnmkclboennaaDoor.Num Go.Proofs.YthpnmkclboennaaDoor.PLib
theorem bl_mul (m d : Nat) (h : m ≠ 0) : bl (m * 2^d) = bl m + d := by
  have h1 := bl_lt m
  have h2 := bl_ge h
  have h3 : bl m ≠ 0 := by unfold bl; rw [if_neg h]; omega
  apply bl_of
  · rw [Nat.pow_add]; exact Nat.mul_lt_mul_of_pos_right h1 (Nat.two_pow_pos d)
  · right
    rw [show bl m + d - 1 = bl m - 1 + d from by omega, Nat.pow_add]
    exact Nat.mul_le_mul_right _ h2
end Go.Proofs.YthpnmkclboennaaDoor.Ref
end
section
namespace Go.Proofs.YthpnmkclboennaaDoor.PLib
open Go.RowKit Go.Proofs.YthpnmkclboennaaDoorW.PrintWords Go.Proofs.YthpnmkclboennaaDoorW.PrintLast Go.Proofs.YthpnmkclboennaaDoorW.PrintMore
attribute [local go_sem] max2_int min2_int max_two min_two max_three min_three max_four min_four   -- for this text's walks alone
set_option linter.unusedVariables false
set_option linter.unusedSimpArgs false
theorem eqA63 (d : Nat) (w : World) (x0 y0 : Int) (x1 y1 : Int) (x2 y2 : Int) (x3 y3 : Int) :
    (Op.equalIn (d + 2) 63 (.agg #[.int .i64 x0, .int .i64 x1, .int .i64 x2, .int .u64 x3]) (.agg #[.int .i64 y0, .int .i64 y1, .int .i64 y2, .int .u64 y3])).run Tryd.prog w = .ok (x0 == y0 && (x1 == y1 && (x2 == y2 && (x3 == y3)))) w := by
  refine eqA_of Tryd.underlying63 (by kernel_rfl) ?_
  refine eqf_cons (by rfl) (by go_simp; rfl) (by go_simp; rfl) (by go_simp) ?_
  refine eqf_cons (by rfl) (by go_simp; rfl) (by go_simp; rfl) (by go_simp) ?_
  refine eqf_cons (by rfl) (by go_simp; rfl) (by go_simp; rfl) (by go_simp) ?_
  exact eqf_last (by rfl) (by go_simp; rfl) (by go_simp; rfl) (by go_simp)
end Go.Proofs.YthpnmkclboennaaDoor.PLib
end
