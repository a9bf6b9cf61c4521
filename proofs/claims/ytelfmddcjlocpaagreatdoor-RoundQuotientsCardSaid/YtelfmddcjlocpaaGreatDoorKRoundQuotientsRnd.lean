/- The formats' numbers, ranks and neighbours in plain Lean; bit words of signs. No condition. The numbers of a binary format by their sizes. Plain Lean; no program in sight. No condition. Rounding to nearest, ties to even: to whole units, and to the sizes of a format. Plain Lean; no program in sight. No condition. -/
import Derived.Laws.BitsAllLaws
import Derived.WalkKit
import Derived.Test.YtelfmddcjlocpaaGreatDoorKRoundQuotientsBl
section
namespace Go.Proofs.YtelfmddcjlocpaaGreatDoor.BinLaw
open Go.RowKit
structure Fmt where mk :: (sg : Nat) (inf : Nat) (man : Nat) (low : Int) (wd : Nat) (qt : Nat)
def fS : Fmt := ⟨2147483648, 2139095040, 24, -149, 32, 2143289345⟩
def fD : Fmt := ⟨9223372036854775808, 9218868437227405312, 53, -1074, 64, 9221120237041090561⟩
theorem one_of {k b : Nat} (hb : b < 2 * 2^k) : b / 2^k = 0 ∨ b / 2^k = 1 := by
 have : b / 2^k < 2 := Nat.div_lt_of_lt_mul (by rw [Nat.mul_comm]; exact hb)
 generalize b / 2^k = q at this
 omega
def IsF (F : Fmt) : Prop := F = fS ∨ F = fD
theorem or_sg {F : Fmt} (hF : IsF F) {s : Nat} (hs : s < F.sg) : bits .or .u64 (s : Int) ((F.sg : Nat) : Int) = ((F.sg + s : Nat) : Int) := by
 rcases hF with rfl | rfl
 ·have hs' : s < 2147483648 := hs
  have e : fS.sg = 2147483648 := rfl
  have a := nat_join 31 2147483648 s (by decide) (by omega)
  rw [e, u64_or_nat s 2147483648 (by omega) (by decide), Nat.or_comm, a]
 ·have hs' : s < 9223372036854775808 := hs
  have e : fD.sg = 9223372036854775808 := rfl
  have a := nat_join 63 9223372036854775808 s (by decide) (by omega)
  rw [e, u64_or_nat s 9223372036854775808 (by omega) (by decide), Nat.or_comm, a]
end Go.Proofs.YtelfmddcjlocpaaGreatDoor.BinLaw
end
section
namespace Go.Proofs.YtelfmddcjlocpaaGreatDoor.Fm8
open Go.Proofs.YtelfmddcjlocpaaGreatDoor.BinLaw Go.Proofs.YtelfmddcjlocpaaGreatDoor.Ref
def Fm (f : Int) (F : Fmt) : Prop := (f = 32 ∧ F = fS) ∨ (f = 64 ∧ F = fD)
theorem Fm.sz {f : Int} {F : Fmt} (h : Fm f F) : 0 < F.inf ∧ F.inf < F.sg ∧ F.sg ≤ 9223372036854775808 ∧ F.inf < 9223372036854775807 := by
 rcases h with ⟨_, rfl⟩ | ⟨_, rfl⟩ <;> exact ⟨by decide, by decide, by decide, by decide⟩
def hdF (F : Fmt) : Nat := F.sg - F.inf
def mgF (F : Fmt) (s : Nat) : Nat := if s / hdF F = 0 then s % hdF F else hdF F + s % hdF F
def xpF (F : Fmt) (s : Nat) : Int := if s / hdF F = 0 then F.low else F.low + (s / hdF F : Nat) - 1
def dF (F : Fmt) (s : Nat) : Nat := s / hdF F - 1
def nF (F : Fmt) (s : Nat) : Nat := mgF F s * 2^(dF F s)
theorem fm_isF {f : Int} {F : Fmt} (h : Fm f F) : IsF F := by
 rcases h with ⟨_, rfl⟩ | ⟨_, rfl⟩
 ·exact .inl rfl
 ·exact .inr rfl
theorem fm_hd {f : Int} {F : Fmt} (h : Fm f F) : 0 < hdF F ∧ hdF F + F.inf = F.sg ∧ hdF F ≤ 4503599627370496 ∧ hdF F % 2 = 0 ∧ 2 * hdF F ≤ F.inf ∧ hdF F = 2^(F.man - 1) ∧ F.inf % 2 = 0 ∧ F.inf % hdF F = 0 ∧ 1 ≤ F.man := by
 rcases h with ⟨_, rfl⟩ | ⟨_, rfl⟩ <;> exact ⟨by decide, by decide, by decide, by decide, by decide, by decide, by decide, by decide, by decide⟩
theorem fm_man {f : Int} {F : Fmt} (h : Fm f F) : (F.man = 24 ∧ F.low = -149) ∨ (F.man = 53 ∧ F.low = -1074) := by
 rcases h with ⟨_, rfl⟩ | ⟨_, rfl⟩
 ·exact .inl ⟨rfl, rfl⟩
 ·exact .inr ⟨rfl, rfl⟩
theorem xp_d (F : Fmt) (s : Nat) : xpF F s = F.low + (dF F s : Nat) := by
 unfold xpF dF
 generalize s / hdF F = q
 by_cases c : q = 0
 ·rw [if_pos c, c]; omega
 ·rw [if_neg c]; omega
theorem nF_next {f : Int} {F : Fmt} (h : Fm f F) (s : Nat) : nF F (s + 1) = nF F s + 2^(dF F s) := by
 obtain ⟨h0, -, -, h2, -⟩ := fm_hd h
 unfold nF mgF dF
 generalize hdF F = d at *
 have e := Nat.div_add_mod s d
 have hr := Nat.mod_lt s h0
 generalize hq : s / d = q at *
 generalize hrr : s % d = r at *
 by_cases c : r + 1 < d
 ·have e1 : (s + 1) / d = q := by rw [← e, Nat.add_assoc, Nat.mul_add_div h0, Nat.div_eq_of_lt c]; rfl
  have e2 : (s + 1) % d = r + 1 := by rw [← e, Nat.add_assoc, Nat.mul_add_mod, Nat.mod_eq_of_lt c]
  rw [e1, e2]
  by_cases cq : q = 0
  ·rw [if_pos cq, if_pos cq, cq]; simp
  ·rw [if_neg cq, if_neg cq, ← Nat.add_assoc, Nat.add_mul (d + r), Nat.one_mul]
 ·have er : r + 1 = d := by omega
  have es : s + 1 = d * (q + 1) := by rw [Nat.mul_add, Nat.mul_one]; omega
  have e1 : (s + 1) / d = q + 1 := by rw [es, Nat.mul_div_cancel_left _ h0]
  have e2 : (s + 1) % d = 0 := by rw [es, Nat.mul_mod_right]
  rw [e1, e2, if_neg (by omega), Nat.add_zero, Nat.add_sub_cancel]
  by_cases cq : q = 0
  ·rw [if_pos cq, cq]; simp; omega
  ·rw [if_neg cq]
   obtain ⟨p, rfl⟩ : ∃ p, q = p + 1 := ⟨q - 1, by omega⟩
   rw [Nat.add_sub_cancel, Nat.pow_succ]
   have e3 : (d + r) * 2^p + 2^p = (d + r + 1) * 2^p := by rw [Nat.add_mul (d + r), Nat.one_mul]
   rw [e3, Nat.add_assoc, er, ← Nat.mul_assoc, Nat.mul_comm (d * 2^p), ← Nat.mul_assoc, Nat.two_mul]
theorem nF_step {f : Int} {F : Fmt} (h : Fm f F) (s : Nat) : nF F s < nF F (s + 1) := by
 have := Nat.two_pow_pos (dF F s)
 rw [nF_next h]; omega
theorem nF_lt {f : Int} {F : Fmt} (h : Fm f F) {s t : Nat} (hst : s < t) : nF F s < nF F t := by
 obtain ⟨d, rfl⟩ : ∃ d, t = s + 1 + d := ⟨t - (s + 1), by omega⟩
 clear hst
 induction d with
 | zero => exact nF_step h s
 | succ d ih => exact Nat.lt_trans ih (nF_step h (s + 1 + d))
theorem nF_le {f : Int} {F : Fmt} (h : Fm f F) {s t : Nat} (hst : s ≤ t) : nF F s ≤ nF F t := by
 rcases Nat.lt_or_eq_of_le hst with c | c
 ·exact Nat.le_of_lt (nF_lt h c)
 ·rw [c]; exact Nat.le_refl _
theorem nF_zero (F : Fmt) : nF F 0 = 0 := by unfold nF mgF; simp
theorem nF_at {f : Int} {F : Fmt} (h : Fm f F) {j q : Nat} (hq : q < 2 * hdF F) (hj : j = 0 ∨ hdF F ≤ q) : nF F (j * hdF F + q) = q * 2^j ∧ dF F (j * hdF F + q) = j := by
 obtain ⟨h0, -⟩ := fm_hd h
 unfold nF mgF dF
 generalize hdF F = d at *
 by_cases c : q < d
 ·obtain rfl : j = 0 := by omega
  rw [Nat.zero_mul, Nat.zero_add, Nat.div_eq_of_lt c, Nat.mod_eq_of_lt c, if_pos rfl]
  exact ⟨rfl, rfl⟩
 ·obtain ⟨r, rfl⟩ : ∃ r, q = d + r := ⟨q - d, by omega⟩
  have e : j * d + (d + r) = d * (j + 1) + r := by rw [Nat.mul_add, Nat.mul_one, Nat.mul_comm d j]; omega
  have e1 : (j * d + (d + r)) / d = j + 1 := by rw [e, Nat.mul_add_div h0, Nat.div_eq_of_lt (by omega)]
  have e2 : (j * d + (d + r)) % d = r := by rw [e, Nat.mul_add_mod, Nat.mod_eq_of_lt (by omega)]
  rw [e1, e2, if_neg (by omega), Nat.add_sub_cancel]
  exact ⟨rfl, rfl⟩
end Go.Proofs.YtelfmddcjlocpaaGreatDoor.Fm8
end
section
namespace Go.Proofs.YtelfmddcjlocpaaGreatDoor.Rnd
open Go.Proofs.YtelfmddcjlocpaaGreatDoor.BinLaw Go.Proofs.YtelfmddcjlocpaaGreatDoor.Ref Go.Proofs.YtelfmddcjlocpaaGreatDoor.Fm8
def nr (V k : Nat) : Nat := V / 2^k + (if 2^k < 2 * (V % 2^k) ∨ (2 * (V % 2^k) = 2^k ∧ V / 2^k % 2 = 1) then 1 else 0)
theorem nr_zero (V : Nat) : nr V 0 = V := by
 unfold nr
 rw [Nat.pow_zero, Nat.div_one, Nat.mod_one, if_neg (by omega)]; rfl
theorem nr_scale (V k c : Nat) : nr (V * 2^c) (k + c) = nr V k := by
 unfold nr
 have p := Nat.two_pow_pos c
 have e1 : V * 2^c / 2^(k + c) = V / 2^k := by rw [Nat.pow_add, Nat.mul_div_mul_right _ _ p]
 have e2 : V * 2^c % 2^(k + c) = V % 2^k * 2^c := by rw [Nat.pow_add, Nat.mul_mod_mul_right]
 rw [e1, e2, Nat.pow_add, ← Nat.mul_assoc]
 have e3 : 2^k * 2^c < 2 * (V % 2^k) * 2^c ↔ 2^k < 2 * (V % 2^k) := ⟨fun h => Nat.lt_of_mul_lt_mul_right h, fun h => Nat.mul_lt_mul_of_pos_right h p⟩
 have e4 : 2 * (V % 2^k) * 2^c = 2^k * 2^c ↔ 2 * (V % 2^k) = 2^k := ⟨fun h => Nat.eq_of_mul_eq_mul_right p h, fun h => by rw [h]⟩
 simp only [e3, e4]
theorem nr_whole (V k : Nat) : nr (V * 2^k) k = V := by
 have := nr_scale V 0 k
 rwa [Nat.zero_add, nr_zero] at this
def rsz (F : Fmt) (g V : Nat) : Nat := min ((max (bl V - F.man) g - g) * hdF F + nr V (max (bl V - F.man) g)) F.inf
def md (F : Fmt) (g s : Nat) : Nat := (nF F s + nF F (s + 1)) * 2^g
theorem md_lt {f : Int} {F : Fmt} (h : Fm f F) {g s t : Nat} (hst : s < t) : md F g s < md F g t := by
 unfold md
 have a := nF_lt h hst
 have b := nF_lt h (show s + 1 < t + 1 by omega)
 exact Nat.mul_lt_mul_of_pos_right (by omega) (Nat.two_pow_pos g)
theorem md_le {f : Int} {F : Fmt} (h : Fm f F) {g s t : Nat} (hst : s ≤ t) : md F g s ≤ md F g t := by
 rcases Nat.lt_or_eq_of_le hst with c | c
 ·exact Nat.le_of_lt (md_lt h c)
 ·rw [c]; exact Nat.le_refl _
structure Nst (F : Fmt) (g V s : Nat) : Prop where mk ::
 (le : s ≤ F.inf)
 (up : s < F.inf → 2 * V < md F g s ∨ (2 * V = md F g s ∧ s % 2 = 0))
 (dn : ∀ t, s = t + 1 → md F g t < 2 * V ∨ (md F g t = 2 * V ∧ s % 2 = 0))
theorem nst_of {f : Int} {F : Fmt} (h : Fm f F) {g V s0 : Nat} (h1 : nF F s0 * 2^g ≤ V) (h2 : V < nF F (s0 + 1) * 2^g) :
  Nst F g V (min (s0 + if md F g s0 < 2 * V ∨ (2 * V = md F g s0 ∧ s0 % 2 = 1) then 1 else 0) F.inf) := by
 have hp := Nat.two_pow_pos g
 have hinf := fm_hd h
 by_cases c : F.inf ≤ s0
 ·-- beyond the greatest
  have e : min (s0 + if md F g s0 < 2 * V ∨ (2 * V = md F g s0 ∧ s0 % 2 = 1) then 1 else 0) F.inf = F.inf := by split <;> omega
  rw [e]
  refine ⟨Nat.le_refl _, fun x => absurd x (Nat.lt_irrefl _), fun t ht => .inl ?_⟩
  have a := nF_lt h (show t < F.inf by omega)
  have b := nF_le h c
  have d : (nF F t + nF F (t + 1)) * 2^g < (nF F s0 + nF F s0) * 2^g := Nat.mul_lt_mul_of_pos_right (by rw [← ht]; omega) hp
  rw [Nat.add_mul (nF F s0)] at d
  show (nF F t + nF F (t + 1)) * 2^g < 2 * V
  omega
 ·by_cases u : md F g s0 < 2 * V ∨ (2 * V = md F g s0 ∧ s0 % 2 = 1)
  ·rw [if_pos u, Nat.min_eq_left (by omega)]
   refine ⟨by omega, fun _ => .inl ?_, fun t ht => ?_⟩
   ·have a := nF_step h (s0 + 1)
    have d : (nF F (s0 + 1) + nF F (s0 + 1)) * 2^g < (nF F (s0 + 1) + nF F (s0 + 1 + 1)) * 2^g := Nat.mul_lt_mul_of_pos_right (by omega) hp
    rw [Nat.add_mul (nF F (s0 + 1)) (nF F (s0 + 1))] at d
    show 2 * V < (nF F (s0 + 1) + nF F (s0 + 1 + 1)) * 2^g
    omega
   ·obtain rfl : t = s0 := by omega
    omega
  ·rw [if_neg u, Nat.add_zero, Nat.min_eq_left (by omega)]
   refine ⟨by omega, fun _ => by omega, fun t ht => .inl ?_⟩
   have a := nF_step h t
   rw [← ht] at a
   have d : (nF F t + nF F s0) * 2^g < (nF F s0 + nF F s0) * 2^g := Nat.mul_lt_mul_of_pos_right (by omega) hp
   rw [Nat.add_mul (nF F s0)] at d
   show (nF F t + nF F (t + 1)) * 2^g < 2 * V
   rw [← ht]
   omega
theorem rsz_nst {f : Int} {F : Fmt} (h : Fm f F) (g V : Nat) : Nst F g V (rsz F g V) := by
 obtain ⟨h0, -, -, h2, -, hm, -, -, hm1⟩ := fm_hd h
 unfold rsz
 obtain ⟨k, hk⟩ : ∃ k, k = max (bl V - F.man) g := ⟨_, rfl⟩
 obtain ⟨j, hj⟩ : ∃ j, j = k - g := ⟨_, rfl⟩
 have hkj : k = j + g := by omega
 rw [← hk, ← hj]
 obtain ⟨q, hq⟩ : ∃ q, q = V / 2^k := ⟨_, rfl⟩
 obtain ⟨r, hr⟩ : ∃ r, r = V % 2^k := ⟨_, rfl⟩
 have hV : V = 2^k * q + r := by rw [hq, hr]; exact (Nat.div_add_mod _ _).symm
 have hp := Nat.two_pow_pos k
 have hrk : r < 2^k := by rw [hr]; exact Nat.mod_lt _ hp
 have e2m : 2 * hdF F = 2^F.man := by rw [hm, Nat.mul_comm, ← Nat.pow_succ, show (F.man - 1).succ = F.man by omega]
 have q1 : q < 2 * hdF F := by
  rw [hq, e2m, Nat.div_lt_iff_lt_mul hp, ← Nat.pow_add]
  exact Nat.lt_of_lt_of_le (bl_lt V) (Nat.pow_le_pow_right (by decide) (by omega))
 have q2 : j = 0 ∨ hdF F ≤ q := by
  by_cases c : j = 0
  ·exact .inl c
  ·right
   have hb : bl V = F.man + k := by omega
   have h0' : V ≠ 0 := by
    intro e
    rw [e] at hb
    have : bl 0 = 0 := rfl
    omega
   have := bl_ge h0'
   rw [hb] at this
   rw [hq, hm, Nat.le_div_iff_mul_le hp, ← Nat.pow_add]
   rwa [show F.man - 1 + k = F.man + k - 1 by omega]
 obtain ⟨a1, a2⟩ := nF_at h q1 q2
 have a3 := nF_next h (j * hdF F + q)
 rw [a1, a2] at a3
 have e3 : q * 2^j * 2^g = 2^k * q := by rw [Nat.mul_assoc, ← Nat.pow_add, ← hkj, Nat.mul_comm]
 have e4 : (q * 2^j + 2^j) * 2^g = 2^k * q + 2^k := by rw [Nat.add_mul, e3, ← Nat.pow_add, ← hkj]
 have key := nst_of h (g := g) (V := V) (s0 := j * hdF F + q) (by rw [a1, e3]; omega) (by rw [a3, e4]; omega)
 have em : md F g (j * hdF F + q) = 2 * (2^k * q) + 2^k := by
  unfold md
  rw [a1, a3, Nat.add_mul, e3, e4]; omega
 have ep : (j * hdF F + q) % 2 = q % 2 := by
  have : j * hdF F % 2 = 0 := by rw [Nat.mul_mod, h2, Nat.mul_zero]
  omega
 rw [em, ep] at key
 have e5 : (2 * (2^k * q) + 2^k < 2 * V ∨ (2 * V = 2 * (2^k * q) + 2^k ∧ q % 2 = 1)) ↔ (2^k < 2 * r ∨ (2 * r = 2^k ∧ q % 2 = 1)) := by omega
 simp only [e5] at key
 unfold nr
 rw [← hq, ← hr, ← Nat.add_assoc]
 exact key
end Go.Proofs.YtelfmddcjlocpaaGreatDoor.Rnd
end
