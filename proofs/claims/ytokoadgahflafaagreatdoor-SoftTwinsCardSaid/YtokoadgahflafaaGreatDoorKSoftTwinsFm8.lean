/- The numbers of a binary format by their sizes. Plain Lean; no program in sight. No condition. -/
import Derived.Test.YtokoadgahflafaaGreatDoorKSoftTwinsBinLaw
import Derived.Test.YtokoadgahflafaaGreatDoorKSoftTwinsBl
namespace Go.Proofs.YtokoadgahflafaaGreatDoor.Fm8
open Go.Proofs.YtokoadgahflafaaGreatDoor.BinLaw Go.Proofs.YtokoadgahflafaaGreatDoor.Ref
def Fm (f : Int) (F : Fmt) : Prop := (f = 32 ∧ F = fS) ∨ (f = 64 ∧ F = fD)
theorem Fm.sz {f : Int} {F : Fmt} (h : Fm f F) : 0 < F.inf ∧ F.inf < F.sg ∧ F.sg ≤ 9223372036854775808 ∧ F.inf < 9223372036854775807 := by
 rcases h with ⟨_, rfl⟩ | ⟨_, rfl⟩ <;> exact ⟨by decide, by decide, by decide, by decide⟩
theorem fm_cases (f : Int) : (∃ F, Fm f F) ∨ (f ≠ 32 ∧ f ≠ 64) := by
 by_cases h : f = 32
 ·exact .inl ⟨fS, .inl ⟨h, rfl⟩⟩
 by_cases h' : f = 64
 ·exact .inl ⟨fD, .inr ⟨h', rfl⟩⟩
 ·exact .inr ⟨h, h'⟩
def hdF (F : Fmt) : Nat := F.sg - F.inf
def mgF (F : Fmt) (s : Nat) : Nat := if s / hdF F = 0 then s % hdF F else hdF F + s % hdF F
def xpF (F : Fmt) (s : Nat) : Int := if s / hdF F = 0 then F.low else F.low + (s / hdF F : Nat) - 1
def dF (F : Fmt) (s : Nat) : Nat := s / hdF F - 1
def nF (F : Fmt) (s : Nat) : Nat := mgF F s * 2^(dF F s)
theorem fm_isF {f : Int} {F : Fmt} (h : Fm f F) : IsF F := by
 rcases h with ⟨_, rfl⟩ | ⟨_, rfl⟩
 ·exact .inl rfl
 ·exact .inr rfl
theorem fm_hd {f : Int} {F : Fmt} (h : Fm f F) : 0 < hdF F ∧ hdF F + F.inf = F.sg ∧ hdF F ≤ 4503599627370496 ∧ hdF F % 2 = 0 ∧ 2 * hdF F ≤ F.inf ∧ hdF F = 2^(F.man - 1) ∧ F.inf % 2 = 0 ∧ F.inf % hdF F = 0 ∧ 1 ≤ F.man := by
 rcases h with ⟨_, rfl⟩ | ⟨_, rfl⟩ <;> exact ⟨by decide, by decide, by decide, by decide, by decide, by decide, by decide, by decide, by decide⟩
theorem fm_man {f : Int} {F : Fmt} (h : Fm f F) : (F.man = 24 ∧ F.low = -149) ∨ (F.man = 53 ∧ F.low = -1074) := by
 rcases h with ⟨_, rfl⟩ | ⟨_, rfl⟩
 ·exact .inl ⟨rfl, rfl⟩
 ·exact .inr ⟨rfl, rfl⟩
theorem xp_d (F : Fmt) (s : Nat) : xpF F s = F.low + (dF F s : Nat) := by
 unfold xpF dF
 generalize s / hdF F = q
 by_cases c : q = 0
 ·rw [if_pos c, c]; omega
 ·rw [if_neg c]; omega
theorem nF_next {f : Int} {F : Fmt} (h : Fm f F) (s : Nat) : nF F (s + 1) = nF F s + 2^(dF F s) := by
 obtain ⟨h0, -, -, h2, -⟩ := fm_hd h
 unfold nF mgF dF
 generalize hdF F = d at *
 have e := Nat.div_add_mod s d
 have hr := Nat.mod_lt s h0
 generalize hq : s / d = q at *
 generalize hrr : s % d = r at *
 by_cases c : r + 1 < d
 ·have e1 : (s + 1) / d = q := by rw [← e, Nat.add_assoc, Nat.mul_add_div h0, Nat.div_eq_of_lt c]; rfl
  have e2 : (s + 1) % d = r + 1 := by rw [← e, Nat.add_assoc, Nat.mul_add_mod, Nat.mod_eq_of_lt c]
  rw [e1, e2]
  by_cases cq : q = 0
  ·rw [if_pos cq, if_pos cq, cq]; simp
  ·rw [if_neg cq, if_neg cq, ← Nat.add_assoc, Nat.add_mul (d + r), Nat.one_mul]
 ·have er : r + 1 = d := by omega
  have es : s + 1 = d * (q + 1) := by rw [Nat.mul_add, Nat.mul_one]; omega
  have e1 : (s + 1) / d = q + 1 := by rw [es, Nat.mul_div_cancel_left _ h0]
  have e2 : (s + 1) % d = 0 := by rw [es, Nat.mul_mod_right]
  rw [e1, e2, if_neg (by omega), Nat.add_zero, Nat.add_sub_cancel]
  by_cases cq : q = 0
  ·rw [if_pos cq, cq]; simp; omega
  ·rw [if_neg cq]
   obtain ⟨p, rfl⟩ : ∃ p, q = p + 1 := ⟨q - 1, by omega⟩
   rw [Nat.add_sub_cancel, Nat.pow_succ]
   have e3 : (d + r) * 2^p + 2^p = (d + r + 1) * 2^p := by rw [Nat.add_mul (d + r), Nat.one_mul]
   rw [e3, Nat.add_assoc, er, ← Nat.mul_assoc, Nat.mul_comm (d * 2^p), ← Nat.mul_assoc, Nat.two_mul]
theorem nF_step {f : Int} {F : Fmt} (h : Fm f F) (s : Nat) : nF F s < nF F (s + 1) := by
 have := Nat.two_pow_pos (dF F s)
 rw [nF_next h]; omega
theorem nF_lt {f : Int} {F : Fmt} (h : Fm f F) {s t : Nat} (hst : s < t) : nF F s < nF F t := by
 obtain ⟨d, rfl⟩ : ∃ d, t = s + 1 + d := ⟨t - (s + 1), by omega⟩
 clear hst
 induction d with
 | zero => exact nF_step h s
 | succ d ih => exact Nat.lt_trans ih (nF_step h (s + 1 + d))
theorem nF_le {f : Int} {F : Fmt} (h : Fm f F) {s t : Nat} (hst : s ≤ t) : nF F s ≤ nF F t := by
 rcases Nat.lt_or_eq_of_le hst with c | c
 ·exact Nat.le_of_lt (nF_lt h c)
 ·rw [c]; exact Nat.le_refl _
theorem nF_at {f : Int} {F : Fmt} (h : Fm f F) {j q : Nat} (hq : q < 2 * hdF F) (hj : j = 0 ∨ hdF F ≤ q) : nF F (j * hdF F + q) = q * 2^j ∧ dF F (j * hdF F + q) = j := by
 obtain ⟨h0, -⟩ := fm_hd h
 unfold nF mgF dF
 generalize hdF F = d at *
 by_cases c : q < d
 ·obtain rfl : j = 0 := by omega
  rw [Nat.zero_mul, Nat.zero_add, Nat.div_eq_of_lt c, Nat.mod_eq_of_lt c, if_pos rfl]
  exact ⟨rfl, rfl⟩
 ·obtain ⟨r, rfl⟩ : ∃ r, q = d + r := ⟨q - d, by omega⟩
  have e : j * d + (d + r) = d * (j + 1) + r := by rw [Nat.mul_add, Nat.mul_one, Nat.mul_comm d j]; omega
  have e1 : (j * d + (d + r)) / d = j + 1 := by rw [e, Nat.mul_add_div h0, Nat.div_eq_of_lt (by omega)]
  have e2 : (j * d + (d + r)) % d = r := by rw [e, Nat.mul_add_mod, Nat.mod_eq_of_lt (by omega)]
  rw [e1, e2, if_neg (by omega), Nat.add_sub_cancel]
  exact ⟨rfl, rfl⟩
end Go.Proofs.YtokoadgahflafaaGreatDoor.Fm8
