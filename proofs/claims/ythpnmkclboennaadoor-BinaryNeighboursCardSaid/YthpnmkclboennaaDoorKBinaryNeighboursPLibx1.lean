/- What the reference's products by a digit, shifts, counts of bits, quotients by a digit and words answer, told by numbers. Plain Lean over the printed functions. Conditions: lists of less than 2^38 digits, shifts below 2^40. What the reference's quotients by a digit, shifts to the right, and words of digits answer, told by numbers. Plain Lean over the printed functions. Conditions: lists of less than 2^38 digits, shifts below 2^40. The reference's whole numbers with a sign (layer 7's seat): making, adding, sign. Plain Lean over the printed functions. Conditions: numbers of less than 2^38 digits. The reference's bits and noughts at the end of a number (layer 7's seat). Plain Lean over the printed functions. Conditions: numbers of less than 2^33 digits. -/
import Derived.Test.YthpnmkclboennaaDoorKBinaryNeighboursWEqStruct
import Derived.Test.YthpnmkclboennaaDoorKBinaryNeighboursPLibx2
import Derived.Test.YthpnmkclboennaaDoorKBinaryNeighboursPLibx7
section
namespace Go.Proofs.YthpnmkclboennaaDoor.Ref
open Go.RowKit Go.Proofs.YthpnmkclboennaaDoorW.PrintWords Go.Proofs.YthpnmkclboennaaDoorW.PrintMore Go.Proofs.YthpnmkclboennaaDoor.Num Go.Proofs.YthpnmkclboennaaDoor.PLib
theorem shl_u32 (r : Nat) (h : r < 32) : shl .u32 1 (r : Int) = ((2^r : Nat) : Int) := by
  unfold shl
  have e : min ((r : Int)).toNat IntKind.u32.bits = r := by
    have : IntKind.u32.bits = 32 := rfl
    rw [this]; omega
  rw [e, Int.one_mul, IntKind.wrap_u32]
  have h1 : 2^r < 2^32 := Nat.pow_lt_pow_right (by decide) h
  have h2 : ((2:Int)^r) = ((2^r : Nat) : Int) := by push_cast; rfl
  rw [h2]
  generalize 2^r = P at *
  omega
theorem tdiv32 (n : Nat) : Int.tdiv (n : Int) 32 = ((n / 32 : Nat) : Int) := by rw [Int.tdiv_eq_ediv_of_nonneg (by omega)]; rfl
theorem tmod32 (n : Nat) : Int.tmod (n : Int) 32 = ((n % 32 : Nat) : Int) := by rw [Int.tmod_eq_emod_of_nonneg (by omega)]; rfl
theorem shl_step (k m n : Nat) (hm : (dg m).length < 274877906944) (hn : n < 1099511627776) :
    gnomonref01_Shl.j0 (k + 1) (dg m) (n : Int) false = (gnomonref01_MulSmall.f k (dg m) ((2^(n % 32) : Nat) : Int) 0).bind fun t => if (List.replicate (n / 32) (0 : Int)).length + t.length < 35184372088832 then (gnomonref01_Norm.f k (List.replicate (n / 32) 0 ++ t)).bind fun u => some u else none := by
  have hr : n % 32 < 32 := Nat.mod_lt _ (by decide)
  have hqq : wrap64 (Int.tdiv (n : Int) 32) = ((n / 32 : Nat) : Int) := by rw [tdiv32, w64 (by omega) (by omega)]
  have hs := shl_u32 _ hr
  generalize hq : n / 32 = q at *
  have hq2 : q ≤ 34359738368 := by omega
  generalize hL : (dg m).length = L at *
  simp only [gnomonref01_Shl.j0]
  rw [if_neg (by decide), hqq, if_pos (by omega), hL, w64 (x := (q : Int) + (L : Int)) (by omega) (by omega), w64 (by omega) (by omega), if_pos (by omega), if_pos (by omega), tmod32, hs, Option.bind_some, if_pos (by omega), Int.toNat_natCast]
def bl (n : Nat) : Nat := if n = 0 then 0 else n.log2 + 1
theorem bl_lt (n : Nat) : n < 2^(bl n) := by
  unfold bl
  by_cases h : n = 0
  · rw [if_pos h, h]; decide
  · rw [if_neg h]; exact Nat.lt_log2_self
theorem bl_ge {n : Nat} (h : n ≠ 0) : 2^(bl n - 1) ≤ n := by
  unfold bl; rw [if_neg h]; exact Nat.log2_self_le h
theorem bl_of {n k : Nat} (h1 : n < 2^k) (h2 : k = 0 ∨ 2^(k-1) ≤ n) : bl n = k := by
  unfold bl
  by_cases h : n = 0
  · rw [if_pos h]
    rcases h2 with h2 | h2
    · exact h2.symm
    · have := Nat.two_pow_pos (k - 1); omega
  · rw [if_neg h]
    have hk : k ≠ 0 := by intro e; rw [e] at h1; simp at h1; exact h h1
    rcases h2 with h2 | h2
    · exact absurd h2 hk
    · have := (Nat.log2_eq_iff h).2 ⟨h2, by rw [show k - 1 + 1 = k from by omega]; exact h1⟩
      omega
theorem bl_le_of_lt {n k : Nat} (h : n < 2^k) : bl n ≤ k := by
  by_cases hc : bl n ≤ k
  · exact hc
  · have h0 : n ≠ 0 := by intro e; subst e; unfold bl at hc; simp at hc
    have h1 := bl_ge h0
    have := Nat.pow_le_pow_right (n := 2) (by decide) (show k ≤ bl n - 1 by omega)
    omega
end Go.Proofs.YthpnmkclboennaaDoor.Ref
end
section
namespace Go.Proofs.YthpnmkclboennaaDoor.Ref
open Go.RowKit Go.Proofs.YthpnmkclboennaaDoorW.PrintWords Go.Proofs.YthpnmkclboennaaDoorW.PrintMore Go.Proofs.YthpnmkclboennaaDoor.Num Go.Proofs.YthpnmkclboennaaDoor.PLib
def lm (n : Nat) : List Int := if _h : n = 0 then [] else ((n % 18446744073709551616 : Nat) : Int) :: lm (n / 18446744073709551616)
termination_by n
decreasing_by exact Nat.div_lt_self (by omega) (by omega)
end Go.Proofs.YthpnmkclboennaaDoor.Ref
end
section
namespace Go.Proofs.YthpnmkclboennaaDoor.Ref
open Go.RowKit Go.Proofs.YthpnmkclboennaaDoorW.PrintWords Go.Proofs.YthpnmkclboennaaDoorW.PrintMore Go.Proofs.YthpnmkclboennaaDoor.Num Go.Proofs.YthpnmkclboennaaDoor.PLib
def sgn (z : Int) : Int := if z = 0 then 0 else if z < 0 then -1 else 1
end Go.Proofs.YthpnmkclboennaaDoor.Ref
end
section
namespace Go.Proofs.YthpnmkclboennaaDoor.Ref
open Go.RowKit Go.Proofs.YthpnmkclboennaaDoorW.PrintWords Go.Proofs.YthpnmkclboennaaDoorW.PrintMore Go.Proofs.YthpnmkclboennaaDoor.Num Go.Proofs.YthpnmkclboennaaDoor.PLib
theorem bl_mul (m d : Nat) (h : m ≠ 0) : bl (m * 2^d) = bl m + d := by
  have h1 := bl_lt m
  have h2 := bl_ge h
  have h3 : bl m ≠ 0 := by unfold bl; rw [if_neg h]; omega
  apply bl_of
  · rw [Nat.pow_add]; exact Nat.mul_lt_mul_of_pos_right h1 (Nat.two_pow_pos d)
  · right
    rw [show bl m + d - 1 = bl m - 1 + d from by omega, Nat.pow_add]
    exact Nat.mul_le_mul_right _ h2
theorem bl_mono {a b : Nat} (h : a ≤ b) : bl a ≤ bl b := bl_le_of_lt (Nat.lt_of_le_of_lt h (bl_lt b))
end Go.Proofs.YthpnmkclboennaaDoor.Ref
end
section
namespace Go.Proofs.YthpnmkclboennaaDoor.PLib
open Go.RowKit Go.Proofs.YthpnmkclboennaaDoorW.PrintWords Go.Proofs.YthpnmkclboennaaDoorW.PrintLast Go.Proofs.YthpnmkclboennaaDoorW.PrintMore
attribute [local go_sem] max2_int min2_int max_two min_two max_three min_three max_four min_four   -- for this text's walks alone
set_option linter.unusedVariables false
set_option linter.unusedSimpArgs false
theorem eqA63 (d : Nat) (w : World) (x0 y0 : Int) (x1 y1 : Int) (x2 y2 : Int) (x3 y3 : Int) :
    (Op.equalIn (d + 2) 63 (.agg #[.int .i64 x0, .int .i64 x1, .int .i64 x2, .int .u64 x3]) (.agg #[.int .i64 y0, .int .i64 y1, .int .i64 y2, .int .u64 y3])).run Tryd.prog w = .ok (x0 == y0 && (x1 == y1 && (x2 == y2 && (x3 == y3)))) w := by
  refine eqA_of Tryd.underlying63 (by kernel_rfl) ?_
  refine eqf_cons (by rfl) (by go_simp; rfl) (by go_simp; rfl) (by go_simp) ?_
  refine eqf_cons (by rfl) (by go_simp; rfl) (by go_simp; rfl) (by go_simp) ?_
  refine eqf_cons (by rfl) (by go_simp; rfl) (by go_simp; rfl) (by go_simp) ?_
  exact eqf_last (by rfl) (by go_simp; rfl) (by go_simp; rfl) (by go_simp)
end Go.Proofs.YthpnmkclboennaaDoor.PLib
end
