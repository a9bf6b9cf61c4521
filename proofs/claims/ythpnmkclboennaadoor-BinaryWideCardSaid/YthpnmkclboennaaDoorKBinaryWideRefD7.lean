/- What the reference's products by a digit, shifts, counts of bits, quotients by a digit and words answer, told by numbers. Plain Lean over the printed functions. Conditions: lists of less than 2^38 digits, shifts below 2^40. What the reference's quotients by a digit, shifts to the right, and words of digits answer, told by numbers. Plain Lean over the printed functions. Conditions: lists of less than 2^38 digits, shifts below 2^40. The reference's whole numbers with a sign (layer 7's seat): making, adding, sign. Plain Lean over the printed functions. Conditions: numbers of less than 2^38 digits. -/
import Derived.Test.YthpnmkclboennaaDoorKBinaryWideNum
import Derived.Test.YthpnmkclboennaaDoorKBinaryWidePLibx2
import Derived.Test.YthpnmkclboennaaDoorKBinaryWidePLibx7
import Derived.Test.YthpnmkclboennaaDoorKBinaryWidePLibx3
section
namespace Go.Proofs.YthpnmkclboennaaDoor.Ref
open Go.RowKit Go.Proofs.YthpnmkclboennaaDoorW.PrintWords Go.Proofs.YthpnmkclboennaaDoorW.PrintMore Go.Proofs.YthpnmkclboennaaDoor.Num Go.Proofs.YthpnmkclboennaaDoor.PLib
theorem tdiv32 (n : Nat) : Int.tdiv (n : Int) 32 = ((n / 32 : Nat) : Int) := by rw [Int.tdiv_eq_ediv_of_nonneg (by omega)]; rfl
theorem tmod32 (n : Nat) : Int.tmod (n : Int) 32 = ((n % 32 : Nat) : Int) := by rw [Int.tmod_eq_emod_of_nonneg (by omega)]; rfl
def bl (n : Nat) : Nat := if n = 0 then 0 else n.log2 + 1
theorem bl_lt (n : Nat) : n < 2^(bl n) := by
  unfold bl
  by_cases h : n = 0
  · rw [if_pos h, h]; decide
  · rw [if_neg h]; exact Nat.lt_log2_self
theorem bl_ge {n : Nat} (h : n ≠ 0) : 2^(bl n - 1) ≤ n := by
  unfold bl; rw [if_neg h]; exact Nat.log2_self_le h
theorem bl_of {n k : Nat} (h1 : n < 2^k) (h2 : k = 0 ∨ 2^(k-1) ≤ n) : bl n = k := by
  unfold bl
  by_cases h : n = 0
  · rw [if_pos h]
    rcases h2 with h2 | h2
    · exact h2.symm
    · have := Nat.two_pow_pos (k - 1); omega
  · rw [if_neg h]
    have hk : k ≠ 0 := by intro e; rw [e] at h1; simp at h1; exact h h1
    rcases h2 with h2 | h2
    · exact absurd h2 hk
    · have := (Nat.log2_eq_iff h).2 ⟨h2, by rw [show k - 1 + 1 = k from by omega]; exact h1⟩
      omega
theorem next_x (x : Nat) (hx : x < 1099511627776000) : wrap64 ((x : Int) + 1) = ((x + 1 : Nat) : Int) := by rw [w64 (by omega) (by omega)]; omega
theorem bl_le_of_lt {n k : Nat} (h : n < 2^k) : bl n ≤ k := by
  by_cases hc : bl n ≤ k
  · exact hc
  · have h0 : n ≠ 0 := by intro e; subst e; unfold bl at hc; simp at hc
    have h1 := bl_ge h0
    have := Nat.pow_le_pow_right (n := 2) (by decide) (show k ≤ bl n - 1 by omega)
    omega
end Go.Proofs.YthpnmkclboennaaDoor.Ref
end
section
namespace Go.Proofs.YthpnmkclboennaaDoor.Ref
open Go.RowKit Go.Proofs.YthpnmkclboennaaDoorW.PrintWords Go.Proofs.YthpnmkclboennaaDoorW.PrintMore Go.Proofs.YthpnmkclboennaaDoor.Num Go.Proofs.YthpnmkclboennaaDoor.PLib
theorem drop_dg (k : Nat) : ∀ m : Nat, (dg m).drop k = dg (m / B^k) := by
  induction k with
  | zero => intro m; rw [List.drop_zero, Nat.pow_zero, Nat.div_one]
  | succ k ih =>
    intro m
    by_cases h : m = 0
    · subst h; rw [dg_zero, List.drop_nil, Nat.zero_div, dg_zero]
    · rw [dg_pos h, List.drop_succ_cons, ih, Nat.div_div_eq_div_mul, Nat.pow_succ, Nat.mul_comm]
theorem div_pow_split (m n : Nat) : m / B^(n / 32) / 2^(n % 32) = m / 2^n := by
  rw [Nat.div_div_eq_div_mul, pw_B, ← Nat.pow_add]
  have hn32 : 32 * (n / 32) + n % 32 = n := Nat.div_add_mod n 32
  rw [hn32]
end Go.Proofs.YthpnmkclboennaaDoor.Ref
end
section
namespace Go.Proofs.YthpnmkclboennaaDoor.Ref
open Go.RowKit Go.Proofs.YthpnmkclboennaaDoorW.PrintWords Go.Proofs.YthpnmkclboennaaDoorW.PrintMore Go.Proofs.YthpnmkclboennaaDoor.Num Go.Proofs.YthpnmkclboennaaDoor.PLib
def sgn (z : Int) : Int := if z = 0 then 0 else if z < 0 then -1 else 1
end Go.Proofs.YthpnmkclboennaaDoor.Ref
end
