/- Lists of digits to the base 2^32 as natural numbers: value, the one list without noughts on top, sums of digits. Plain Lean; no program in sight. No condition. The bit length of a natural number. Plain Lean; no program in sight. No condition. -/
import Derived.Test.YtapikmfckpgjoaaDoorKDdOrderWMore
import Derived.Laws.Bits64
import Derived.Laws.BitsLemmas
import Derived.Laws.MathBits
import Derived.Laws.BitsAllLaws
section
namespace Go.Proofs.YtapikmfckpgjoaaDoor.Num
open Go.RowKit Go.Proofs.YtapikmfckpgjoaaDoorW.PrintWords Go.Proofs.YtapikmfckpgjoaaDoorW.PrintMore
def B : Nat := 4294967296
theorem w64 {x : Int} (h0 : -9223372036854775808 ≤ x) (h1 : x < 9223372036854775808) : wrap64 x = x := by unfold wrap64; omega
theorem wu64 {x : Int} (h0 : 0 ≤ x) (h1 : x < 18446744073709551616) : IntKind.u64.wrap x = x := by rw [IntKind.wrap_u64]; omega
def vl : List Int → Nat
 | [] => 0
 | d :: t => d.toNat + B * vl t
def pv (l : List Int) (i : Nat) : Nat := vl (l.take i)
end Go.Proofs.YtapikmfckpgjoaaDoor.Num
end
section
namespace Go.Proofs.YtapikmfckpgjoaaDoor.Ref
def bl (n : Nat) : Nat := if n = 0 then 0 else n.log2 + 1
theorem bl_lt (n : Nat) : n < 2^(bl n) := by
 unfold bl
 by_cases h : n = 0
 ·rw [if_pos h, h]; decide
 ·rw [if_neg h]; exact Nat.lt_log2_self
theorem bl_ge {n : Nat} (h : n ≠ 0) : 2^(bl n - 1) ≤ n := by
 unfold bl; rw [if_neg h]; exact Nat.log2_self_le h
theorem bl_of {n k : Nat} (h1 : n < 2^k) (h2 : k = 0 ∨ 2^(k-1) ≤ n) : bl n = k := by
 unfold bl
 by_cases h : n = 0
 ·rw [if_pos h]
  rcases h2 with h2 | h2
  ·exact h2.symm
  ·have := Nat.two_pow_pos (k - 1); omega
 ·rw [if_neg h]
  have hk : k ≠ 0 := by intro e; rw [e] at h1; simp at h1; exact h h1
  rcases h2 with h2 | h2
  ·exact absurd h2 hk
  ·have := (Nat.log2_eq_iff h).2 ⟨h2, by rw [show k - 1 + 1 = k from by omega]; exact h1⟩
   omega
theorem bl_le_of_lt {n k : Nat} (h : n < 2^k) : bl n ≤ k := by
 by_cases hc : bl n ≤ k
 ·exact hc
 ·have h0 : n ≠ 0 := by intro e; subst e; unfold bl at hc; simp at hc
  have h1 := bl_ge h0
  have := Nat.pow_le_pow_right (n := 2) (by decide) (show k ≤ bl n - 1 by omega)
  omega
theorem bl_mul (m d : Nat) (h : m ≠ 0) : bl (m * 2^d) = bl m + d := by
 have h1 := bl_lt m
 have h2 := bl_ge h
 have h3 : bl m ≠ 0 := by unfold bl; rw [if_neg h]; omega
 apply bl_of
 ·rw [Nat.pow_add]; exact Nat.mul_lt_mul_of_pos_right h1 (Nat.two_pow_pos d)
 ·right
  rw [show bl m + d - 1 = bl m - 1 + d from by omega, Nat.pow_add]
  exact Nat.mul_le_mul_right _ h2
theorem bl_mono {a b : Nat} (h : a ≤ b) : bl a ≤ bl b := bl_le_of_lt (Nat.lt_of_le_of_lt h (bl_lt b))
theorem bl_shift (x b : Nat) (h : x / 2^b ≠ 0) : bl x = b + bl (x / 2^b) := bitLen_shift x b h
end Go.Proofs.YtapikmfckpgjoaaDoor.Ref
end
