/- Limbs of 64 bits: the words of a natural number, their count, what one word more adds. Plain Lean; no program in sight. No condition. -/
import Derived.Test.YtelfmddcjlocpaaGreatDoorKRoundNarrowsBl
namespace Go.Proofs.YtelfmddcjlocpaaGreatDoor.GTh
open Go.Proofs.YtelfmddcjlocpaaGreatDoor.Ref
def pw (j : Nat) : Nat := 2^(64 * j)
def dw (x j : Nat) : Nat := x / pw j % 18446744073709551616
def nl (x : Nat) : Nat := (bl x + 63) / 64
theorem e64 : (2 : Nat)^64 = 18446744073709551616 := by decide
theorem pw_pos (j : Nat) : 0 < pw j := Nat.two_pow_pos _
theorem pw_zero : pw 0 = 1 := rfl
theorem pw_one : pw 1 = 18446744073709551616 := by decide
theorem pw_add (i j : Nat) : pw (i + j) = pw i * pw j := by unfold pw; rw [Nat.mul_add, Nat.pow_add]
theorem pw_succ (j : Nat) : pw (j + 1) = pw j * 18446744073709551616 := by rw [pw_add, pw_one]
theorem pw_mono {i j : Nat} (h : i ≤ j) : pw i ≤ pw j := Nat.pow_le_pow_right (by decide) (by omega)
theorem dw_lt (x j : Nat) : dw x j < 18446744073709551616 := Nat.mod_lt _ (by decide)
theorem mod_succ (x j : Nat) : x % pw (j + 1) = x % pw j + pw j * dw x j := by unfold dw; rw [pw_succ, Nat.mod_mul]
theorem div_succ (x j : Nat) : x / pw j = dw x j + 18446744073709551616 * (x / pw (j + 1)) := by
 rw [pw_succ, ← Nat.div_div_eq_div_mul]
 unfold dw
 exact (Nat.mod_add_div _ _).symm
theorem dw_zero_n (j : Nat) : dw 0 j = 0 := by unfold dw; rw [Nat.zero_div]
theorem dw_out {x j : Nat} (h : x < pw j) : dw x j = 0 := by unfold dw; rw [Nat.div_eq_of_lt h]
theorem dw_out' {x n j : Nat} (h : x < pw n) (hj : n ≤ j) : dw x j = 0 := dw_out (Nat.lt_of_lt_of_le h (pw_mono hj))
theorem dw_top {x n : Nat} (h : x < pw (n + 1)) : dw x n = x / pw n := by
 unfold dw
 exact Nat.mod_eq_of_lt (Nat.div_lt_of_lt_mul (by rw [← pw_succ]; exact h))
theorem lt_of_dw {x n : Nat} (h : x < pw (n + 1)) (h0 : dw x n = 0) : x < pw n := by
 rw [dw_top h] at h0
 exact (Nat.div_eq_zero_iff_lt (pw_pos n)).1 h0
theorem ge_of_dw {x n : Nat} (h0 : dw x n ≠ 0) : pw n ≤ x := by
 by_cases h : x < pw n
 ·exact absurd (dw_out h) h0
 ·omega
theorem dw_low {x i j : Nat} (d : Nat) (h : j < i) : dw (x + d * pw i) j = dw x j := by
 obtain ⟨k, rfl⟩ : ∃ k, i = j + (k + 1) := ⟨i - j - 1, by omega⟩
 unfold dw
 have e : d * pw (j + (k + 1)) = pw j * (d * pw k * 18446744073709551616) := by rw [pw_add, pw_succ]; ac_rfl
 rw [e, Nat.add_mul_div_left _ _ (pw_pos j), Nat.add_mul_mod_self_right]
theorem div_put (x i d : Nat) : (x + d * pw i) / pw i = x / pw i + d := by rw [Nat.mul_comm d, Nat.add_mul_div_left _ _ (pw_pos i)]
theorem dw_at {x i d : Nat} (h : dw x i = 0) (hd : d < 18446744073709551616) : dw (x + d * pw i) i = d := by
 unfold dw at h ⊢
 rw [div_put, Nat.add_mod, h, Nat.zero_add, Nat.mod_mod, Nat.mod_eq_of_lt hd]
theorem dw_high {x i j d : Nat} (h : dw x i = 0) (hd : d < 18446744073709551616) (hj : i < j) : dw (x + d * pw i) j = dw x j := by
 obtain ⟨k, rfl⟩ : ∃ k, j = i + 1 + k := ⟨j - i - 1, by omega⟩
 have hq : ∀ y, y / pw (i + 1 + k) = y / pw i / 18446744073709551616 / pw k := fun y => by rw [pw_add, pw_succ, ← Nat.div_div_eq_div_mul, ← Nat.div_div_eq_div_mul]
 unfold dw at h ⊢
 rw [hq, hq x, div_put]
 have : (x / pw i + d) / 18446744073709551616 = x / pw i / 18446744073709551616 := by omega
 rw [this]
theorem dw_put {x i d : Nat} (h : dw x i = 0) (hd : d < 18446744073709551616) (j : Nat) : dw (x + d * pw i) j = if j = i then d else dw x j := by
 by_cases c : j = i
 ·rw [if_pos c, c]; exact dw_at h hd
 ·rw [if_neg c]
  by_cases c2 : j < i
  ·exact dw_low d c2
  ·exact dw_high h hd (by omega)
theorem dw_new {x y i : Nat} (d : Nat) (hd : d < 18446744073709551616) (h : x + d * pw i = y + dw x i * pw i) (j : Nat) : dw y j = if j = i then d else dw x j := by
 have hx := dw_lt x i
 have hle : dw x i * pw i ≤ x := by
  have h1 := Nat.div_add_mod x (pw i)
  have h2 : dw x i ≤ x / pw i := Nat.mod_le _ _
  have h3 : dw x i * pw i ≤ x / pw i * pw i := Nat.mul_le_mul_right _ h2
  have h4 : x / pw i * pw i ≤ x := Nat.div_mul_le_self _ _
  omega
 have e0 : x = (x - dw x i * pw i) + dw x i * pw i := by omega
 have z : dw (x - dw x i * pw i) i = 0 := by
  have e1 : x / pw i = (x - dw x i * pw i) / pw i + dw x i := by
   conv => lhs; rw [e0]
   exact div_put _ _ _
  have e2 : dw x i = x / pw i % 18446744073709551616 := rfl
  show (x - dw x i * pw i) / pw i % 18446744073709551616 = 0
  omega
 have ey : y = (x - dw x i * pw i) + d * pw i := by omega
 have q1 := dw_put z hd j
 have q2 := dw_put z hx j
 rw [← e0] at q2
 rw [ey, q1]
 by_cases c : j = i
 ·rw [if_pos c, if_pos c]
 ·rw [if_neg c, if_neg c]; rw [if_neg c] at q2; exact q2.symm
theorem bl_le_iff {x k : Nat} : bl x ≤ k ↔ x < 2^k := ⟨fun h => Nat.lt_of_lt_of_le (bl_lt x) (Nat.pow_le_pow_right (by decide) h), bl_le_of_lt⟩
theorem nl_le_iff {x n : Nat} : nl x ≤ n ↔ x < pw n := by
 have h : bl x ≤ 64 * n ↔ x < 2^(64 * n) := bl_le_iff
 unfold nl pw
 rw [← h]
 omega
theorem nl_lt (x : Nat) : x < pw (nl x) := nl_le_iff.1 (Nat.le_refl _)
theorem bl_pos {x : Nat} (h : x ≠ 0) : 0 < bl x := by unfold bl; rw [if_neg h]; omega
theorem nl_zero : nl 0 = 0 := rfl
theorem nl_pos {x : Nat} (h : x ≠ 0) : 0 < nl x := by have := bl_pos h; unfold nl; omega
theorem nl_ge {x : Nat} (h : x ≠ 0) : pw (nl x - 1) ≤ x := by
 by_cases c : x < pw (nl x - 1)
 ·have h1 := nl_le_iff.2 c
  have h2 := nl_pos h
  omega
 ·omega
theorem nl_top {x : Nat} (h : x ≠ 0) : dw x (nl x - 1) ≠ 0 := by
 intro c
 have h2 := nl_pos h
 have h1 : x < pw (nl x - 1 + 1) := by rw [show nl x - 1 + 1 = nl x by omega]; exact nl_lt x
 have := lt_of_dw h1 c
 have := nl_ge h
 omega
theorem nl_of {x n : Nat} (h1 : x < pw (n + 1)) (h2 : dw x n ≠ 0) : nl x = n + 1 := by
 have a := nl_le_iff.2 h1
 have b := ge_of_dw h2
 by_cases c : nl x ≤ n
 ·have := nl_le_iff.1 c; omega
 ·omega
theorem nl_mono {x y : Nat} (h : x ≤ y) : nl x ≤ nl y := nl_le_iff.2 (Nat.lt_of_le_of_lt h (nl_lt y))
theorem nl_one {x : Nat} (h : x ≠ 0) (h2 : x < 18446744073709551616) : nl x = 1 := by
 have := nl_pos h
 have : nl x ≤ 1 := nl_le_iff.2 (by rw [pw_one]; exact h2)
 omega
theorem bl_limbs {x : Nat} (h : x ≠ 0) : 64 * (nl x - 1) + bl (dw x (nl x - 1)) = bl x := by
 have h2 := nl_pos h
 have h1 : x < pw (nl x - 1 + 1) := by rw [show nl x - 1 + 1 = nl x by omega]; exact nl_lt x
 have t := nl_top h
 rw [dw_top h1] at t ⊢
 exact (bl_shift' x (64 * (nl x - 1)) t).symm
where bl_shift' (x b : Nat) (h : x / 2^b ≠ 0) : bl x = b + bl (x / 2^b) := Ref.bl_shift x b h
theorem bl_le_limbs (x : Nat) : bl x ≤ 64 * nl x := by unfold nl; omega
theorem dw_ext {x y n : Nat} (hx : x < pw n) (hy : y < pw n) (h : ∀ j, j < n → dw x j = dw y j) : x = y := by
 have key : ∀ k, k ≤ n → x % pw k = y % pw k := by
  intro k
  induction k with
  | zero => intro _; rw [pw_zero, Nat.mod_one, Nat.mod_one]
  | succ k ih => intro hk; rw [mod_succ, mod_succ, ih (by omega), h k (by omega)]
 have := key n (Nat.le_refl _)
 rwa [Nat.mod_eq_of_lt hx, Nat.mod_eq_of_lt hy] at this
end Go.Proofs.YtelfmddcjlocpaaGreatDoor.GTh
