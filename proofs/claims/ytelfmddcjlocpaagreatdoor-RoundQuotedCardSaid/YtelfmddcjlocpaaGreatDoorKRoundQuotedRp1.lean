/- The formats' numbers, ranks and neighbours in plain Lean; bit words of signs. No condition. The numbers of a binary format by their sizes. Plain Lean; no program in sight. No condition. Rounding to nearest, ties to even: to whole units, and to the sizes of a format. Plain Lean; no program in sight. No condition. What the printed functions on dyadics answer: Form (the program's and the reference's), Sign, top, size, Cmp. Plain Lean over the printed functions. Conditions: lists of words. -/
import Derived.Laws.BitsAllLaws
import Derived.WalkKit
import Derived.Test.YtelfmddcjlocpaaGreatDoorKRoundQuotedBl
import Derived.Test.YtelfmddcjlocpaaGreatDoorKRoundQuotedGivenD
import Derived.Test.YtelfmddcjlocpaaGreatDoorKRoundQuotedPxL0
section
namespace Go.Proofs.YtelfmddcjlocpaaGreatDoor.BinLaw
open Go.RowKit
structure Fmt where mk :: (sg : Nat) (inf : Nat) (man : Nat) (low : Int) (wd : Nat) (qt : Nat)
def fS : Fmt := ⟨2147483648, 2139095040, 24, -149, 32, 2143289345⟩
def fD : Fmt := ⟨9223372036854775808, 9218868437227405312, 53, -1074, 64, 9221120237041090561⟩
theorem drop_bit (k b m : Nat) (hm : m % 2^k = 2^k - 1) (hb : b / 2^k &&& m / 2^k = 0) : b &&& m = b % 2^k := by
 have h1 : (b &&& m) % 2^k = b % 2^k := by
  rw [Nat.and_mod_two_pow, hm, Nat.and_two_pow_sub_one_eq_mod, Nat.mod_mod]
 have h2 : (b &&& m) / 2^k = 0 := by rw [Nat.and_div_two_pow]; exact hb
 have h3 := Nat.div_add_mod (b &&& m) (2^k)
 rw [h1, h2, Nat.mul_zero, Nat.zero_add] at h3
 exact h3.symm
theorem one_of {k b : Nat} (hb : b < 2 * 2^k) : b / 2^k = 0 ∨ b / 2^k = 1 := by
 have : b / 2^k < 2 := Nat.div_lt_of_lt_mul (by rw [Nat.mul_comm]; exact hb)
 generalize b / 2^k = q at this
 omega
def IsF (F : Fmt) : Prop := F = fS ∨ F = fD
theorem andNot_sg {F : Fmt} (hF : IsF F) {b : Nat} (hb : b < 2 * F.sg) : bits .andNot .u64 (b : Int) ((F.sg : Nat) : Int) = ((b % F.sg : Nat) : Int) := by
 rcases hF with rfl | rfl
 ·have hb' : b < 4294967296 := hb
  have h := u64_andNot_nat b 2147483648 (by omega) (by decide)
  rw [drop_bit 31 b _ (by decide) (by rcases one_of (k := 31) (b := b) (by omega) with h | h <;> rw [h] <;> decide)] at h
  exact h
 ·have hb' : b < 18446744073709551616 := hb
  have h := u64_andNot_nat b 9223372036854775808 (by omega) (by decide)
  rw [drop_bit 63 b _ (by decide) (by rcases one_of (k := 63) (b := b) (by omega) with h | h <;> rw [h] <;> decide)] at h
  exact h
theorem and_bit (k b : Nat) (hb : b < 2 * 2^k) : b &&& 2^k = if 2^k ≤ b then 2^k else 0 := by
 rw [nat_bit]
 by_cases h : 2^k ≤ b
 ·rw [if_pos h]
  have : b / 2^k = 1 := by
   have := Nat.div_pos h (Nat.two_pow_pos k)
   rcases one_of hb with h | h <;> omega
  rw [this, Nat.one_mod, Nat.one_mul]
 ·rw [if_neg h, Nat.div_eq_of_lt (by omega), Nat.zero_mod, Nat.zero_mul]
theorem and_sg {F : Fmt} (hF : IsF F) {b : Nat} (hb : b < 2 * F.sg) : (bits .and .u64 (b : Int) ((F.sg : Nat) : Int) != 0) = decide (F.sg ≤ b) := by
 rcases hF with rfl | rfl
 ·have hb' : b < 4294967296 := hb
  have e : fS.sg = 2147483648 := rfl
  have a := and_bit 31 b (by omega)
  rw [show (2 : Nat)^31 = 2147483648 from by decide] at a
  rw [e, u64_and_nat b 2147483648 (by omega) (by decide), a]
  by_cases c : 2147483648 ≤ b
  ·rw [if_pos c, decide_eq_true c]; rfl
  ·rw [if_neg c, decide_eq_false c]; rfl
 ·have hb' : b < 18446744073709551616 := hb
  have e : fD.sg = 9223372036854775808 := rfl
  have a := and_bit 63 b (by omega)
  rw [show (2 : Nat)^63 = 9223372036854775808 from by decide] at a
  rw [e, u64_and_nat b 9223372036854775808 (by omega) (by decide), a]
  by_cases c : 9223372036854775808 ≤ b
  ·rw [if_pos c, decide_eq_true c]; rfl
  ·rw [if_neg c, decide_eq_false c]; rfl
theorem or_sg {F : Fmt} (hF : IsF F) {s : Nat} (hs : s < F.sg) : bits .or .u64 (s : Int) ((F.sg : Nat) : Int) = ((F.sg + s : Nat) : Int) := by
 rcases hF with rfl | rfl
 ·have hs' : s < 2147483648 := hs
  have e : fS.sg = 2147483648 := rfl
  have a := nat_join 31 2147483648 s (by decide) (by omega)
  rw [e, u64_or_nat s 2147483648 (by omega) (by decide), Nat.or_comm, a]
 ·have hs' : s < 9223372036854775808 := hs
  have e : fD.sg = 9223372036854775808 := rfl
  have a := nat_join 63 9223372036854775808 s (by decide) (by omega)
  rw [e, u64_or_nat s 9223372036854775808 (by omega) (by decide), Nat.or_comm, a]
end Go.Proofs.YtelfmddcjlocpaaGreatDoor.BinLaw
end
section
namespace Go.Proofs.YtelfmddcjlocpaaGreatDoor.Fm8
open Go.Proofs.YtelfmddcjlocpaaGreatDoor.BinLaw Go.Proofs.YtelfmddcjlocpaaGreatDoor.Ref
def Fm (f : Int) (F : Fmt) : Prop := (f = 32 ∧ F = fS) ∨ (f = 64 ∧ F = fD)
theorem Fm.sz {f : Int} {F : Fmt} (h : Fm f F) : 0 < F.inf ∧ F.inf < F.sg ∧ F.sg ≤ 9223372036854775808 ∧ F.inf < 9223372036854775807 := by
 rcases h with ⟨_, rfl⟩ | ⟨_, rfl⟩ <;> exact ⟨by decide, by decide, by decide, by decide⟩
def hdF (F : Fmt) : Nat := F.sg - F.inf
def mgF (F : Fmt) (s : Nat) : Nat := if s / hdF F = 0 then s % hdF F else hdF F + s % hdF F
def xpF (F : Fmt) (s : Nat) : Int := if s / hdF F = 0 then F.low else F.low + (s / hdF F : Nat) - 1
def dF (F : Fmt) (s : Nat) : Nat := s / hdF F - 1
def nF (F : Fmt) (s : Nat) : Nat := mgF F s * 2^(dF F s)
theorem fm_isF {f : Int} {F : Fmt} (h : Fm f F) : IsF F := by
 rcases h with ⟨_, rfl⟩ | ⟨_, rfl⟩
 ·exact .inl rfl
 ·exact .inr rfl
theorem fm_hd {f : Int} {F : Fmt} (h : Fm f F) : 0 < hdF F ∧ hdF F + F.inf = F.sg ∧ hdF F ≤ 4503599627370496 ∧ hdF F % 2 = 0 ∧ 2 * hdF F ≤ F.inf ∧ hdF F = 2^(F.man - 1) ∧ F.inf % 2 = 0 ∧ F.inf % hdF F = 0 ∧ 1 ≤ F.man := by
 rcases h with ⟨_, rfl⟩ | ⟨_, rfl⟩ <;> exact ⟨by decide, by decide, by decide, by decide, by decide, by decide, by decide, by decide, by decide⟩
theorem fm_man {f : Int} {F : Fmt} (h : Fm f F) : (F.man = 24 ∧ F.low = -149) ∨ (F.man = 53 ∧ F.low = -1074) := by
 rcases h with ⟨_, rfl⟩ | ⟨_, rfl⟩
 ·exact .inl ⟨rfl, rfl⟩
 ·exact .inr ⟨rfl, rfl⟩
theorem xp_d (F : Fmt) (s : Nat) : xpF F s = F.low + (dF F s : Nat) := by
 unfold xpF dF
 generalize s / hdF F = q
 by_cases c : q = 0
 ·rw [if_pos c, c]; omega
 ·rw [if_neg c]; omega
theorem nF_next {f : Int} {F : Fmt} (h : Fm f F) (s : Nat) : nF F (s + 1) = nF F s + 2^(dF F s) := by
 obtain ⟨h0, -, -, h2, -⟩ := fm_hd h
 unfold nF mgF dF
 generalize hdF F = d at *
 have e := Nat.div_add_mod s d
 have hr := Nat.mod_lt s h0
 generalize hq : s / d = q at *
 generalize hrr : s % d = r at *
 by_cases c : r + 1 < d
 ·have e1 : (s + 1) / d = q := by rw [← e, Nat.add_assoc, Nat.mul_add_div h0, Nat.div_eq_of_lt c]; rfl
  have e2 : (s + 1) % d = r + 1 := by rw [← e, Nat.add_assoc, Nat.mul_add_mod, Nat.mod_eq_of_lt c]
  rw [e1, e2]
  by_cases cq : q = 0
  ·rw [if_pos cq, if_pos cq, cq]; simp
  ·rw [if_neg cq, if_neg cq, ← Nat.add_assoc, Nat.add_mul (d + r), Nat.one_mul]
 ·have er : r + 1 = d := by omega
  have es : s + 1 = d * (q + 1) := by rw [Nat.mul_add, Nat.mul_one]; omega
  have e1 : (s + 1) / d = q + 1 := by rw [es, Nat.mul_div_cancel_left _ h0]
  have e2 : (s + 1) % d = 0 := by rw [es, Nat.mul_mod_right]
  rw [e1, e2, if_neg (by omega), Nat.add_zero, Nat.add_sub_cancel]
  by_cases cq : q = 0
  ·rw [if_pos cq, cq]; simp; omega
  ·rw [if_neg cq]
   obtain ⟨p, rfl⟩ : ∃ p, q = p + 1 := ⟨q - 1, by omega⟩
   rw [Nat.add_sub_cancel, Nat.pow_succ]
   have e3 : (d + r) * 2^p + 2^p = (d + r + 1) * 2^p := by rw [Nat.add_mul (d + r), Nat.one_mul]
   rw [e3, Nat.add_assoc, er, ← Nat.mul_assoc, Nat.mul_comm (d * 2^p), ← Nat.mul_assoc, Nat.two_mul]
theorem nF_step {f : Int} {F : Fmt} (h : Fm f F) (s : Nat) : nF F s < nF F (s + 1) := by
 have := Nat.two_pow_pos (dF F s)
 rw [nF_next h]; omega
theorem nF_lt {f : Int} {F : Fmt} (h : Fm f F) {s t : Nat} (hst : s < t) : nF F s < nF F t := by
 obtain ⟨d, rfl⟩ : ∃ d, t = s + 1 + d := ⟨t - (s + 1), by omega⟩
 clear hst
 induction d with
 | zero => exact nF_step h s
 | succ d ih => exact Nat.lt_trans ih (nF_step h (s + 1 + d))
theorem nF_le {f : Int} {F : Fmt} (h : Fm f F) {s t : Nat} (hst : s ≤ t) : nF F s ≤ nF F t := by
 rcases Nat.lt_or_eq_of_le hst with c | c
 ·exact Nat.le_of_lt (nF_lt h c)
 ·rw [c]; exact Nat.le_refl _
theorem nF_zero (F : Fmt) : nF F 0 = 0 := by unfold nF mgF; simp
theorem nF_at {f : Int} {F : Fmt} (h : Fm f F) {j q : Nat} (hq : q < 2 * hdF F) (hj : j = 0 ∨ hdF F ≤ q) : nF F (j * hdF F + q) = q * 2^j ∧ dF F (j * hdF F + q) = j := by
 obtain ⟨h0, -⟩ := fm_hd h
 unfold nF mgF dF
 generalize hdF F = d at *
 by_cases c : q < d
 ·obtain rfl : j = 0 := by omega
  rw [Nat.zero_mul, Nat.zero_add, Nat.div_eq_of_lt c, Nat.mod_eq_of_lt c, if_pos rfl]
  exact ⟨rfl, rfl⟩
 ·obtain ⟨r, rfl⟩ : ∃ r, q = d + r := ⟨q - d, by omega⟩
  have e : j * d + (d + r) = d * (j + 1) + r := by rw [Nat.mul_add, Nat.mul_one, Nat.mul_comm d j]; omega
  have e1 : (j * d + (d + r)) / d = j + 1 := by rw [e, Nat.mul_add_div h0, Nat.div_eq_of_lt (by omega)]
  have e2 : (j * d + (d + r)) % d = r := by rw [e, Nat.mul_add_mod, Nat.mod_eq_of_lt (by omega)]
  rw [e1, e2, if_neg (by omega), Nat.add_sub_cancel]
  exact ⟨rfl, rfl⟩
end Go.Proofs.YtelfmddcjlocpaaGreatDoor.Fm8
end
section
namespace Go.Proofs.YtelfmddcjlocpaaGreatDoor.Rnd
open Go.Proofs.YtelfmddcjlocpaaGreatDoor.BinLaw Go.Proofs.YtelfmddcjlocpaaGreatDoor.Ref Go.Proofs.YtelfmddcjlocpaaGreatDoor.Fm8
def nr (V k : Nat) : Nat := V / 2^k + (if 2^k < 2 * (V % 2^k) ∨ (2 * (V % 2^k) = 2^k ∧ V / 2^k % 2 = 1) then 1 else 0)
theorem nr_zero (V : Nat) : nr V 0 = V := by
 unfold nr
 rw [Nat.pow_zero, Nat.div_one, Nat.mod_one, if_neg (by omega)]; rfl
theorem nr_scale (V k c : Nat) : nr (V * 2^c) (k + c) = nr V k := by
 unfold nr
 have p := Nat.two_pow_pos c
 have e1 : V * 2^c / 2^(k + c) = V / 2^k := by rw [Nat.pow_add, Nat.mul_div_mul_right _ _ p]
 have e2 : V * 2^c % 2^(k + c) = V % 2^k * 2^c := by rw [Nat.pow_add, Nat.mul_mod_mul_right]
 rw [e1, e2, Nat.pow_add, ← Nat.mul_assoc]
 have e3 : 2^k * 2^c < 2 * (V % 2^k) * 2^c ↔ 2^k < 2 * (V % 2^k) := ⟨fun h => Nat.lt_of_mul_lt_mul_right h, fun h => Nat.mul_lt_mul_of_pos_right h p⟩
 have e4 : 2 * (V % 2^k) * 2^c = 2^k * 2^c ↔ 2 * (V % 2^k) = 2^k := ⟨fun h => Nat.eq_of_mul_eq_mul_right p h, fun h => by rw [h]⟩
 simp only [e3, e4]
theorem nr_whole (V k : Nat) : nr (V * 2^k) k = V := by
 have := nr_scale V 0 k
 rwa [Nat.zero_add, nr_zero] at this
def rsz (F : Fmt) (g V : Nat) : Nat := min ((max (bl V - F.man) g - g) * hdF F + nr V (max (bl V - F.man) g)) F.inf
def md (F : Fmt) (g s : Nat) : Nat := (nF F s + nF F (s + 1)) * 2^g
theorem md_lt {f : Int} {F : Fmt} (h : Fm f F) {g s t : Nat} (hst : s < t) : md F g s < md F g t := by
 unfold md
 have a := nF_lt h hst
 have b := nF_lt h (show s + 1 < t + 1 by omega)
 exact Nat.mul_lt_mul_of_pos_right (by omega) (Nat.two_pow_pos g)
theorem md_le {f : Int} {F : Fmt} (h : Fm f F) {g s t : Nat} (hst : s ≤ t) : md F g s ≤ md F g t := by
 rcases Nat.lt_or_eq_of_le hst with c | c
 ·exact Nat.le_of_lt (md_lt h c)
 ·rw [c]; exact Nat.le_refl _
structure Nst (F : Fmt) (g V s : Nat) : Prop where mk ::
 (le : s ≤ F.inf)
 (up : s < F.inf → 2 * V < md F g s ∨ (2 * V = md F g s ∧ s % 2 = 0))
 (dn : ∀ t, s = t + 1 → md F g t < 2 * V ∨ (md F g t = 2 * V ∧ s % 2 = 0))
theorem nst_mono {f : Int} {F : Fmt} (h : Fm f F) {g V V' s s' : Nat} (hV : V ≤ V') (a : Nst F g V s) (b : Nst F g V' s') : s ≤ s' := by
 rcases Nat.lt_or_ge s' s with c | c
 ·exfalso
  obtain ⟨t, rfl⟩ : ∃ t, s = t + 1 := ⟨s - 1, by omega⟩
  have a1 := a.dn t rfl
  have b1 := b.up (by have := a.le; omega)
  have m1 := md_le h (g := g) (show s' ≤ t by omega)
  rcases Nat.lt_or_eq_of_le (show s' ≤ t by omega) with d | d
  ·have := md_lt h (g := g) d; omega
  ·subst d; omega
 ·exact c
theorem nst_uniq {f : Int} {F : Fmt} (h : Fm f F) {g V s s' : Nat} (a : Nst F g V s) (b : Nst F g V s') : s = s' :=
 Nat.le_antisymm (nst_mono h (Nat.le_refl _) a b) (nst_mono h (Nat.le_refl _) b a)
theorem nst_of {f : Int} {F : Fmt} (h : Fm f F) {g V s0 : Nat} (h1 : nF F s0 * 2^g ≤ V) (h2 : V < nF F (s0 + 1) * 2^g) :
  Nst F g V (min (s0 + if md F g s0 < 2 * V ∨ (2 * V = md F g s0 ∧ s0 % 2 = 1) then 1 else 0) F.inf) := by
 have hp := Nat.two_pow_pos g
 have hinf := fm_hd h
 by_cases c : F.inf ≤ s0
 ·-- beyond the greatest
  have e : min (s0 + if md F g s0 < 2 * V ∨ (2 * V = md F g s0 ∧ s0 % 2 = 1) then 1 else 0) F.inf = F.inf := by split <;> omega
  rw [e]
  refine ⟨Nat.le_refl _, fun x => absurd x (Nat.lt_irrefl _), fun t ht => .inl ?_⟩
  have a := nF_lt h (show t < F.inf by omega)
  have b := nF_le h c
  have d : (nF F t + nF F (t + 1)) * 2^g < (nF F s0 + nF F s0) * 2^g := Nat.mul_lt_mul_of_pos_right (by rw [← ht]; omega) hp
  rw [Nat.add_mul (nF F s0)] at d
  show (nF F t + nF F (t + 1)) * 2^g < 2 * V
  omega
 ·by_cases u : md F g s0 < 2 * V ∨ (2 * V = md F g s0 ∧ s0 % 2 = 1)
  ·rw [if_pos u, Nat.min_eq_left (by omega)]
   refine ⟨by omega, fun _ => .inl ?_, fun t ht => ?_⟩
   ·have a := nF_step h (s0 + 1)
    have d : (nF F (s0 + 1) + nF F (s0 + 1)) * 2^g < (nF F (s0 + 1) + nF F (s0 + 1 + 1)) * 2^g := Nat.mul_lt_mul_of_pos_right (by omega) hp
    rw [Nat.add_mul (nF F (s0 + 1)) (nF F (s0 + 1))] at d
    show 2 * V < (nF F (s0 + 1) + nF F (s0 + 1 + 1)) * 2^g
    omega
   ·obtain rfl : t = s0 := by omega
    omega
  ·rw [if_neg u, Nat.add_zero, Nat.min_eq_left (by omega)]
   refine ⟨by omega, fun _ => by omega, fun t ht => .inl ?_⟩
   have a := nF_step h t
   rw [← ht] at a
   have d : (nF F t + nF F s0) * 2^g < (nF F s0 + nF F s0) * 2^g := Nat.mul_lt_mul_of_pos_right (by omega) hp
   rw [Nat.add_mul (nF F s0)] at d
   show (nF F t + nF F (t + 1)) * 2^g < 2 * V
   rw [← ht]
   omega
theorem rsz_nst {f : Int} {F : Fmt} (h : Fm f F) (g V : Nat) : Nst F g V (rsz F g V) := by
 obtain ⟨h0, -, -, h2, -, hm, -, -, hm1⟩ := fm_hd h
 unfold rsz
 obtain ⟨k, hk⟩ : ∃ k, k = max (bl V - F.man) g := ⟨_, rfl⟩
 obtain ⟨j, hj⟩ : ∃ j, j = k - g := ⟨_, rfl⟩
 have hkj : k = j + g := by omega
 rw [← hk, ← hj]
 obtain ⟨q, hq⟩ : ∃ q, q = V / 2^k := ⟨_, rfl⟩
 obtain ⟨r, hr⟩ : ∃ r, r = V % 2^k := ⟨_, rfl⟩
 have hV : V = 2^k * q + r := by rw [hq, hr]; exact (Nat.div_add_mod _ _).symm
 have hp := Nat.two_pow_pos k
 have hrk : r < 2^k := by rw [hr]; exact Nat.mod_lt _ hp
 have e2m : 2 * hdF F = 2^F.man := by rw [hm, Nat.mul_comm, ← Nat.pow_succ, show (F.man - 1).succ = F.man by omega]
 have q1 : q < 2 * hdF F := by
  rw [hq, e2m, Nat.div_lt_iff_lt_mul hp, ← Nat.pow_add]
  exact Nat.lt_of_lt_of_le (bl_lt V) (Nat.pow_le_pow_right (by decide) (by omega))
 have q2 : j = 0 ∨ hdF F ≤ q := by
  by_cases c : j = 0
  ·exact .inl c
  ·right
   have hb : bl V = F.man + k := by omega
   have h0' : V ≠ 0 := by
    intro e
    rw [e] at hb
    have : bl 0 = 0 := rfl
    omega
   have := bl_ge h0'
   rw [hb] at this
   rw [hq, hm, Nat.le_div_iff_mul_le hp, ← Nat.pow_add]
   rwa [show F.man - 1 + k = F.man + k - 1 by omega]
 obtain ⟨a1, a2⟩ := nF_at h q1 q2
 have a3 := nF_next h (j * hdF F + q)
 rw [a1, a2] at a3
 have e3 : q * 2^j * 2^g = 2^k * q := by rw [Nat.mul_assoc, ← Nat.pow_add, ← hkj, Nat.mul_comm]
 have e4 : (q * 2^j + 2^j) * 2^g = 2^k * q + 2^k := by rw [Nat.add_mul, e3, ← Nat.pow_add, ← hkj]
 have key := nst_of h (g := g) (V := V) (s0 := j * hdF F + q) (by rw [a1, e3]; omega) (by rw [a3, e4]; omega)
 have em : md F g (j * hdF F + q) = 2 * (2^k * q) + 2^k := by
  unfold md
  rw [a1, a3, Nat.add_mul, e3, e4]; omega
 have ep : (j * hdF F + q) % 2 = q % 2 := by
  have : j * hdF F % 2 = 0 := by rw [Nat.mul_mod, h2, Nat.mul_zero]
  omega
 rw [em, ep] at key
 have e5 : (2 * (2^k * q) + 2^k < 2 * V ∨ (2 * V = 2 * (2^k * q) + 2^k ∧ q % 2 = 1)) ↔ (2^k < 2 * r ∨ (2 * r = 2^k ∧ q % 2 = 1)) := by omega
 simp only [e5] at key
 unfold nr
 rw [← hq, ← hr, ← Nat.add_assoc]
 exact key
theorem rsz_eq {f : Int} {F : Fmt} (h : Fm f F) {g V s : Nat} (a : Nst F g V s) : rsz F g V = s := nst_uniq h (rsz_nst h g V) a
end Go.Proofs.YtelfmddcjlocpaaGreatDoor.Rnd
end
section
namespace Go.Proofs.YtelfmddcjlocpaaGreatDoor.Rp1
open Go.RowKit Go.Proofs.YtelfmddcjlocpaaGreatDoorW.PrintWords Go.Proofs.YtelfmddcjlocpaaGreatDoorW.PrintMore Go.Proofs.YtelfmddcjlocpaaGreatDoor.Num Go.Proofs.YtelfmddcjlocpaaGreatDoor.PLib Go.Proofs.YtelfmddcjlocpaaGreatDoor.Ref Go.Proofs.YtelfmddcjlocpaaGreatDoor.GTh Go.Proofs.YtelfmddcjlocpaaGreatDoor.Given
theorem Ev.succ {α : Type} {g : Nat → Option α} {r : α} (h : Ev (fun k => g (k + 1)) r) : Ev g r := Ev.step (f := fun k => g (k + 1)) (fun _ => rfl) h
theorem lb_rd {x j : Nat} (h : j < nl x) : rd (lb x) (j : Int) = ((dw x j : Nat) : Int) := by
 unfold Go.Proofs.YtelfmddcjlocpaaGreatDoorW.PrintWords.rd
 rw [Int.toNat_natCast, List.getD_eq_getElem?_getD, lb_at h]; rfl
theorem dw_odd {m : Nat} (h : m % 2 = 1) : dw m 0 % 2 = 1 := by unfold dw; rw [pw_zero, Nat.div_one]; omega
theorem and_one (n : Nat) (h : n < 18446744073709551616) : Go.bits .and .u64 (n : Int) 1 = ((n % 2 : Nat) : Int) := by
 have := u64_and_nat n 1 h (by decide)
 rw [Nat.and_one_is_mod] at this
 exact this
def Wf (l : List Int) : Prop := ∀ d ∈ l, 0 ≤ d ∧ d < 18446744073709551616
def nfm (l : List Int) : Bool := decide (l.length ≤ 8192) && (decide (l.length = 0) || (rd l (((l.length - 1 : Nat) : Int)) != 0))
theorem natForm_f (l : List Int) : nat_Form.f l = some (nfm l) := by
 unfold nat_Form.f nfm
 by_cases c : l.length ≤ 8192
 ·rw [if_pos (by omega), decide_eq_true c, Bool.true_and]
  by_cases c0 : l.length = 0
  ·rw [if_pos (by omega), decide_eq_true c0, Bool.true_or]
  ·have e : wrap64 ((l.length : Int) - 1) = ((l.length - 1 : Nat) : Int) := by rw [w64 (by omega) (by omega)]; omega
   rw [if_neg (by omega), e, if_pos (by omega), if_pos (by omega), decide_eq_false c0, Bool.false_or]
 ·rw [if_neg (by omega), decide_eq_false c, Bool.false_and]
theorem refForm_f (l : List Int) : gnomonref01_DocForm.f l = some (nfm l) := by
 unfold gnomonref01_DocForm.f nfm
 by_cases c : l.length ≤ 8192
 ·rw [if_pos (by omega), decide_eq_true c, Bool.true_and]
  by_cases c0 : l.length = 0
  ·rw [if_pos (by omega), decide_eq_true c0, Bool.true_or]
  ·have e : wrap64 ((l.length : Int) - 1) = ((l.length - 1 : Nat) : Int) := by rw [w64 (by omega) (by omega)]; omega
   rw [if_neg (by omega), e, if_pos (by omega), if_pos (by omega), decide_eq_false c0, Bool.false_or]
 ·rw [if_neg (by omega), decide_eq_false c, Bool.false_and]
def dyB (neg : Bool) (l : List Int) (x : Int) : Bool := if nfm l = true ∧ -1048576 ≤ x ∧ x ≤ 1048576 then (if l.length = 0 then (!neg && (x == 0)) else (Go.bits .and .u64 (rd l 0) 1 == 1)) else false
theorem numForm_f (neg : Bool) (l : List Int) : num_Form.f neg l = some (nfm l && !(neg && decide (l.length = 0))) := by
 unfold num_Form.f
 rw [natForm_f]
 simp only [Option.bind_some]
 cases hn : nfm l
 ·rfl
 ·simp only [if_true]
  cases neg
  ·rfl
  ·rw [if_pos rfl, Bool.true_and, Bool.true_and]
   by_cases c : l.length = 0
   ·rw [decide_eq_true c, c]; rfl
   ·rw [decide_eq_false c, show ((l.length : Int) == 0) = false by simpa using c]
theorem form_ev (neg : Bool) (l : List Int) (x : Int) : Ev (fun k => dyadic_Form.f k neg l x) (dyB neg l x) := by
 have hj : ∀ b : Bool, (b = true → dyB neg l x = false) → (b = false → dyB neg l x = (if l.length = 0 then (!neg && (x == 0)) else (Go.bits .and .u64 (rd l 0) 1 == 1)) ∧ (l.length = 0 → neg = false)) → Ev (fun k => dyadic_Form.j0 k b neg l x) (dyB neg l x) := by
  intro b hb1 hb2
  refine Ev.step (f := fun _ => some (dyB neg l x)) (fun k => ?_) (Ev.now _)
  rw [dyadic_Form.j0]
  cases b
  ·obtain ⟨e, e0⟩ := hb2 rfl
   rw [if_neg (by decide), e]
   by_cases c : l.length = 0
   ·have : dyadic_nought.f neg l x = some true := by unfold dyadic_nought.f; rw [c]; rfl
    rw [this, if_pos c, e0 c]
    simp
   ·have : dyadic_nought.f neg l x = some false := by unfold dyadic_nought.f; rw [show ((l.length : Int) == 0) = false by simpa using c]
    rw [this, if_neg c]
    simp only [Option.bind_some]
    rw [if_neg (by decide), if_pos (by omega)]
  ·rw [if_pos rfl, hb1 rfl]
 unfold dyadic_Form.f
 rw [numForm_f]
 simp only [Option.bind_some]
 cases hn : nfm l
 ·rw [Bool.false_and]
  refine Ev.congr (fun k => if_neg (by decide)) (hj true (fun _ => ?_) (fun h => by cases h))
  unfold dyB
  rw [hn, if_neg (by simp)]
 ·rw [Bool.true_and]
  cases hz : (neg && decide (l.length = 0))
  ·refine Ev.congr (fun k => if_pos (by decide)) ?_
   have hz' : l.length = 0 → neg = false := fun c => by
    rw [decide_eq_true c, Bool.and_true] at hz; exact hz
   by_cases c1 : x < -1048576
   ·refine Ev.congr (fun k => if_pos c1) (hj true (fun _ => ?_) (fun h => by cases h))
    unfold dyB
    rw [if_neg (by omega)]
   ·refine Ev.congr (fun k => if_neg c1) (hj _ (fun h => ?_) (fun h => ?_))
    ·have := of_decide_eq_true h
     unfold dyB
     rw [if_neg (by omega)]
    ·have := of_decide_eq_false h
     refine ⟨?_, hz'⟩
     unfold dyB
     rw [if_pos ⟨hn, by omega, by omega⟩]
  ·refine Ev.congr (fun k => if_neg (by decide)) (hj true (fun _ => ?_) (fun h => by cases h))
   rw [Bool.and_eq_true] at hz
   have := of_decide_eq_true hz.2
   unfold dyB
   rw [hz.1]
   split
   ·first | rfl | (rw [if_pos this]; rfl)
   ·rfl
theorem docForm_ev (neg : Bool) (l : List Int) (x : Int) : Ev (fun k => gnomonref05_DocForm.f k neg l x) (dyB neg l x) := by
 have hj : ∀ b : Bool, (b = true → dyB neg l x = false) → (b = false → dyB neg l x = (if l.length = 0 then (!neg && (x == 0)) else (Go.bits .and .u64 (rd l 0) 1 == 1))) → Ev (fun k => gnomonref05_DocForm.j0 k b neg l x) (dyB neg l x) := by
  intro b hb1 hb2
  refine Ev.step (f := fun _ => some (dyB neg l x)) (fun k => ?_) (Ev.now _)
  rw [gnomonref05_DocForm.j0]
  cases b
  ·rw [if_neg (by decide), hb2 rfl]
   by_cases c : l.length = 0
   ·rw [if_pos (by omega), if_pos c]
    cases neg <;> rfl
   ·rw [if_neg (by omega), if_neg c, if_pos (by omega)]
  ·rw [if_pos rfl, hb1 rfl]
 unfold gnomonref05_DocForm.f
 rw [refForm_f]
 simp only [Option.bind_some]
 cases hn : nfm l
 ·refine Ev.congr (fun k => if_neg (by decide)) (hj true (fun _ => ?_) (fun h => by cases h))
  unfold dyB
  rw [hn, if_neg (by simp)]
 ·refine Ev.congr (fun k => if_pos (by decide)) ?_
  by_cases c1 : x < -1048576
  ·refine Ev.congr (fun k => if_pos c1) (hj true (fun _ => ?_) (fun h => by cases h))
   unfold dyB
   rw [if_neg (by omega)]
  ·refine Ev.congr (fun k => if_neg c1) (hj _ (fun h => ?_) (fun h => ?_))
   ·have := of_decide_eq_true h
    unfold dyB
    rw [if_neg (by omega)]
   ·have := of_decide_eq_false h
    unfold dyB
    rw [if_pos ⟨hn, by omega, by omega⟩]
structure Dk (neg : Bool) (m : Nat) (x : Int) : Prop where mk :: (lim : nl m ≤ 8192) (zero : m = 0 → neg = false ∧ x = 0) (odd : m ≠ 0 → m % 2 = 1) (low : -1048576 ≤ x) (high : x ≤ 1048576)
theorem nfm_lb {m : Nat} (h : nl m ≤ 8192) : nfm (lb m) = true := by
 unfold nfm
 rw [lb_len, decide_eq_true h, Bool.true_and]
 by_cases c : m = 0
 ·rw [c]; rfl
 ·have p := nl_pos c
  have t := nl_top c
  rw [decide_eq_false (by omega), Bool.false_or, lb_rd (by omega)]
  simpa using t
theorem dyB_lb {neg : Bool} {m : Nat} {x : Int} (h : Dk neg m x) : dyB neg (lb m) x = true := by
 unfold dyB
 rw [if_pos ⟨nfm_lb h.lim, h.low, h.high⟩, lb_len]
 by_cases c : m = 0
 ·obtain ⟨rfl, rfl⟩ := h.zero c
  rw [c]; rfl
 ·have p := nl_pos c
  have e := lb_rd (x := m) (j := 0) p
  rw [if_neg (by omega), show (0 : Int) = ((0 : Nat) : Int) from rfl, e, and_one _ (dw_lt _ _), dw_odd (h.odd c)]
  rfl
theorem dk_of {neg : Bool} {l : List Int} {x : Int} (hw : Wf l) (h : dyB neg l x = true) : ∃ m, l = lb m ∧ Dk neg m x := by
 unfold dyB at h
 by_cases c : nfm l = true ∧ -1048576 ≤ x ∧ x ≤ 1048576
 ·rw [if_pos c] at h
  obtain ⟨c1, c2, c3⟩ := c
  unfold nfm at c1
  rw [Bool.and_eq_true] at c1
  have hl := of_decide_eq_true c1.1
  have hok : okL l = true := okL_iff.2 ⟨by omega, hw⟩
  have hlt := vL_lt hw
  by_cases c0 : l.length = 0
  ·obtain rfl := List.eq_nil_of_length_eq_zero c0
   rw [if_pos c0, Bool.and_eq_true] at h
   refine ⟨0, rfl, by decide, fun _ => ⟨by simpa using h.1, by simpa using h.2⟩, fun e => absurd rfl e, c2, c3⟩
  ·rw [if_neg c0] at h
   have c4 := c1.2
   rw [decide_eq_false c0, Bool.false_or] at c4
   obtain ⟨n, hn⟩ : ∃ n, l.length = n + 1 := ⟨l.length - 1, by omega⟩
   have e1 : rd l ((l.length - 1 : Nat) : Int) = ((dw (vL l) n : Nat) : Int) := by
    unfold Go.Proofs.YtelfmddcjlocpaaGreatDoorW.PrintWords.rd
    rw [Int.toNat_natCast, List.getD_eq_getElem?_getD, vL_at hw (by omega), show l.length - 1 = n by omega]; rfl
   have e0 : rd l 0 = ((dw (vL l) 0 : Nat) : Int) := by
    unfold Go.Proofs.YtelfmddcjlocpaaGreatDoorW.PrintWords.rd
    rw [show (0 : Int).toNat = 0 from rfl, List.getD_eq_getElem?_getD, vL_at hw (by omega)]; rfl
   rw [e1] at c4
   have t : dw (vL l) n ≠ 0 := by
    intro e
    rw [e] at c4
    exact absurd c4 (by decide)
   rw [hn] at hlt
   have hnl := nl_of hlt t
   have hlb := lb_of hok (by rw [hnl, hn])
   rw [e0, and_one _ (dw_lt _ _)] at h
   have ho : vL l % 2 = 1 := by
    have h1 : dw (vL l) 0 = vL l % 18446744073709551616 := by unfold dw; rw [pw_zero, Nat.div_one]
    rw [h1] at h
    have : (((vL l % 18446744073709551616 % 2 : Nat) : Int)) = 1 := by simpa using h
    omega
   exact ⟨vL l, hlb, by omega, fun e => by omega, fun _ => ho, c2, c3⟩
 ·rw [if_neg c] at h; cases h
def sgn (neg : Bool) (m : Nat) : Int := if m = 0 then 0 else if neg then -1 else 1
theorem bits_f {m : Nat} (h : nl m ≤ 8192) : nat_Bits.f (lb m) = some ((bl m : Nat) : Int) := by
 unfold nat_Bits.f
 rw [if_pos (okL_lb (by omega)), vL_lb]
theorem sign_f (neg : Bool) {m : Nat} (h : nl m ≤ 8192) : num_Sign.f neg (lb m) = some (sgn neg m) := by
 unfold num_Sign.f sgn
 rw [bits_f h]
 simp only [Option.bind_some]
 by_cases c : m = 0
 ·rw [if_pos c, c]; rfl
 ·have := bl_pos c
  rw [if_neg (by omega), if_neg c]
  cases neg <;> rfl
theorem bl_le' {m : Nat} (h : nl m ≤ 8192) : bl m ≤ 524288 := by have := bl_le_limbs m; omega
theorem shl_f {m n : Nat} (h : nl m ≤ 8192) (hn : m = 0 ∨ bl m + n ≤ 524288) : nat_Shl.f (lb m) (n : Int) = some (lb (m * 2^n), 0) := by
 unfold nat_Shl.f
 rw [vL_lb, if_pos ⟨fmL_lb h, by omega, by rw [Int.toNat_natCast]; exact hn⟩, Int.toNat_natCast]
def szc (m : Nat) (x : Int) (m' : Nat) (x' : Int) : Int := cmI (m * 2^(x - min x x').toNat) (m' * 2^(x' - min x x').toNat)
theorem cmI_lt {x y : Nat} (h : x < y) : cmI x y = -1 := if_pos h
theorem cmI_gt {x y : Nat} (h : y < x) : cmI x y = 1 := by unfold cmI; rw [if_neg (by omega), if_pos h]
theorem szc_top {m m' : Nat} {x x' : Int} (h0 : m ≠ 0) (h0' : m' ≠ 0) (h : x + (bl m : Nat) < x' + (bl m' : Nat)) : m * 2^(x - min x x').toNat < m' * 2^(x' - min x x').toNat := by
 have h1 : bl (m * 2^(x - min x x').toNat) = bl m + (x - min x x').toNat := bl_mul m _ h0
 have h2 : bl (m' * 2^(x' - min x x').toNat) = bl m' + (x' - min x x').toNat := bl_mul m' _ h0'
 by_cases c : m * 2^(x - min x x').toNat < m' * 2^(x' - min x x').toNat
 ·exact c
 ·have h3 := bl_mono (show m' * 2^(x' - min x x').toNat ≤ m * 2^(x - min x x').toNat by omega)
  omega
end Go.Proofs.YtelfmddcjlocpaaGreatDoor.Rp1
end
