/- What the reference's products by a digit, shifts, counts of bits, quotients by a digit and words answer, told by numbers. Plain Lean over the printed functions. Conditions: lists of less than 2^38 digits, shifts below 2^40. -/
import Derived.Test.YthpnmkclboennaaDoorKBinaryRejoinsRefA
import Derived.Test.YthpnmkclboennaaDoorKBinaryRejoinsPLibx2
import Derived.Test.YthpnmkclboennaaDoorKBinaryRejoinsPLibx0
import Derived.Test.YthpnmkclboennaaDoorKBinaryRejoinsPLibx3
namespace Go.Proofs.YthpnmkclboennaaDoor.Ref
open Go.RowKit Go.Proofs.YthpnmkclboennaaDoorW.PrintWords Go.Proofs.YthpnmkclboennaaDoorW.PrintMore Go.Proofs.YthpnmkclboennaaDoor.Num Go.Proofs.YthpnmkclboennaaDoor.PLib
def bl (n : Nat) : Nat := if n = 0 then 0 else n.log2 + 1
theorem bl_lt (n : Nat) : n < 2^(bl n) := by
  unfold bl
  by_cases h : n = 0
  · rw [if_pos h, h]; decide
  · rw [if_neg h]; exact Nat.lt_log2_self
theorem bl_ge {n : Nat} (h : n ≠ 0) : 2^(bl n - 1) ≤ n := by
  unfold bl; rw [if_neg h]; exact Nat.log2_self_le h
theorem bl_of {n k : Nat} (h1 : n < 2^k) (h2 : k = 0 ∨ 2^(k-1) ≤ n) : bl n = k := by
  unfold bl
  by_cases h : n = 0
  · rw [if_pos h]
    rcases h2 with h2 | h2
    · exact h2.symm
    · have := Nat.two_pow_pos (k - 1); omega
  · rw [if_neg h]
    have hk : k ≠ 0 := by intro e; rw [e] at h1; simp at h1; exact h h1
    rcases h2 with h2 | h2
    · exact absurd h2 hk
    · have := (Nat.log2_eq_iff h).2 ⟨h2, by rw [show k - 1 + 1 = k from by omega]; exact h1⟩
      omega
theorem bl_le_of_lt {n k : Nat} (h : n < 2^k) : bl n ≤ k := by
  by_cases hc : bl n ≤ k
  · exact hc
  · have h0 : n ≠ 0 := by intro e; subst e; unfold bl at hc; simp at hc
    have h1 := bl_ge h0
    have := Nat.pow_le_pow_right (n := 2) (by decide) (show k ≤ bl n - 1 by omega)
    omega
end Go.Proofs.YthpnmkclboennaaDoor.Ref
