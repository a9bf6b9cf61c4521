/- Rounding to nearest, ties to even: to whole units, and to the sizes of a format. Plain Lean; no program in sight. No condition. -/
import Derived.Test.YtelfmddcjlocpaaGreatDoorKRoundNarrowsFm8
namespace Go.Proofs.YtelfmddcjlocpaaGreatDoor.Rnd
open Go.Proofs.YtelfmddcjlocpaaGreatDoor.BinLaw Go.Proofs.YtelfmddcjlocpaaGreatDoor.Ref Go.Proofs.YtelfmddcjlocpaaGreatDoor.Fm8
def nr (V k : Nat) : Nat := V / 2^k + (if 2^k < 2 * (V % 2^k) ∨ (2 * (V % 2^k) = 2^k ∧ V / 2^k % 2 = 1) then 1 else 0)
theorem nr_zero (V : Nat) : nr V 0 = V := by
 unfold nr
 rw [Nat.pow_zero, Nat.div_one, Nat.mod_one, if_neg (by omega)]; rfl
theorem nr_scale (V k c : Nat) : nr (V * 2^c) (k + c) = nr V k := by
 unfold nr
 have p := Nat.two_pow_pos c
 have e1 : V * 2^c / 2^(k + c) = V / 2^k := by rw [Nat.pow_add, Nat.mul_div_mul_right _ _ p]
 have e2 : V * 2^c % 2^(k + c) = V % 2^k * 2^c := by rw [Nat.pow_add, Nat.mul_mod_mul_right]
 rw [e1, e2, Nat.pow_add, ← Nat.mul_assoc]
 have e3 : 2^k * 2^c < 2 * (V % 2^k) * 2^c ↔ 2^k < 2 * (V % 2^k) := ⟨fun h => Nat.lt_of_mul_lt_mul_right h, fun h => Nat.mul_lt_mul_of_pos_right h p⟩
 have e4 : 2 * (V % 2^k) * 2^c = 2^k * 2^c ↔ 2 * (V % 2^k) = 2^k := ⟨fun h => Nat.eq_of_mul_eq_mul_right p h, fun h => by rw [h]⟩
 simp only [e3, e4]
theorem nr_whole (V k : Nat) : nr (V * 2^k) k = V := by
 have := nr_scale V 0 k
 rwa [Nat.zero_add, nr_zero] at this
def rsz (F : Fmt) (g V : Nat) : Nat := min ((max (bl V - F.man) g - g) * hdF F + nr V (max (bl V - F.man) g)) F.inf
def md (F : Fmt) (g s : Nat) : Nat := (nF F s + nF F (s + 1)) * 2^g
theorem md_lt {f : Int} {F : Fmt} (h : Fm f F) {g s t : Nat} (hst : s < t) : md F g s < md F g t := by
 unfold md
 have a := nF_lt h hst
 have b := nF_lt h (show s + 1 < t + 1 by omega)
 exact Nat.mul_lt_mul_of_pos_right (by omega) (Nat.two_pow_pos g)
theorem md_le {f : Int} {F : Fmt} (h : Fm f F) {g s t : Nat} (hst : s ≤ t) : md F g s ≤ md F g t := by
 rcases Nat.lt_or_eq_of_le hst with c | c
 ·exact Nat.le_of_lt (md_lt h c)
 ·rw [c]; exact Nat.le_refl _
structure Nst (F : Fmt) (g V s : Nat) : Prop where mk ::
 (le : s ≤ F.inf)
 (up : s < F.inf → 2 * V < md F g s ∨ (2 * V = md F g s ∧ s % 2 = 0))
 (dn : ∀ t, s = t + 1 → md F g t < 2 * V ∨ (md F g t = 2 * V ∧ s % 2 = 0))
theorem nst_mono {f : Int} {F : Fmt} (h : Fm f F) {g V V' s s' : Nat} (hV : V ≤ V') (a : Nst F g V s) (b : Nst F g V' s') : s ≤ s' := by
 rcases Nat.lt_or_ge s' s with c | c
 ·exfalso
  obtain ⟨t, rfl⟩ : ∃ t, s = t + 1 := ⟨s - 1, by omega⟩
  have a1 := a.dn t rfl
  have b1 := b.up (by have := a.le; omega)
  have m1 := md_le h (g := g) (show s' ≤ t by omega)
  rcases Nat.lt_or_eq_of_le (show s' ≤ t by omega) with d | d
  ·have := md_lt h (g := g) d; omega
  ·subst d; omega
 ·exact c
theorem nst_uniq {f : Int} {F : Fmt} (h : Fm f F) {g V s s' : Nat} (a : Nst F g V s) (b : Nst F g V s') : s = s' :=
 Nat.le_antisymm (nst_mono h (Nat.le_refl _) a b) (nst_mono h (Nat.le_refl _) b a)
theorem nst_of {f : Int} {F : Fmt} (h : Fm f F) {g V s0 : Nat} (h1 : nF F s0 * 2^g ≤ V) (h2 : V < nF F (s0 + 1) * 2^g) :
  Nst F g V (min (s0 + if md F g s0 < 2 * V ∨ (2 * V = md F g s0 ∧ s0 % 2 = 1) then 1 else 0) F.inf) := by
 have hp := Nat.two_pow_pos g
 have hinf := fm_hd h
 by_cases c : F.inf ≤ s0
 ·-- beyond the greatest
  have e : min (s0 + if md F g s0 < 2 * V ∨ (2 * V = md F g s0 ∧ s0 % 2 = 1) then 1 else 0) F.inf = F.inf := by split <;> omega
  rw [e]
  refine ⟨Nat.le_refl _, fun x => absurd x (Nat.lt_irrefl _), fun t ht => .inl ?_⟩
  have a := nF_lt h (show t < F.inf by omega)
  have b := nF_le h c
  have d : (nF F t + nF F (t + 1)) * 2^g < (nF F s0 + nF F s0) * 2^g := Nat.mul_lt_mul_of_pos_right (by rw [← ht]; omega) hp
  rw [Nat.add_mul (nF F s0)] at d
  show (nF F t + nF F (t + 1)) * 2^g < 2 * V
  omega
 ·by_cases u : md F g s0 < 2 * V ∨ (2 * V = md F g s0 ∧ s0 % 2 = 1)
  ·rw [if_pos u, Nat.min_eq_left (by omega)]
   refine ⟨by omega, fun _ => .inl ?_, fun t ht => ?_⟩
   ·have a := nF_step h (s0 + 1)
    have d : (nF F (s0 + 1) + nF F (s0 + 1)) * 2^g < (nF F (s0 + 1) + nF F (s0 + 1 + 1)) * 2^g := Nat.mul_lt_mul_of_pos_right (by omega) hp
    rw [Nat.add_mul (nF F (s0 + 1)) (nF F (s0 + 1))] at d
    show 2 * V < (nF F (s0 + 1) + nF F (s0 + 1 + 1)) * 2^g
    omega
   ·obtain rfl : t = s0 := by omega
    omega
  ·rw [if_neg u, Nat.add_zero, Nat.min_eq_left (by omega)]
   refine ⟨by omega, fun _ => by omega, fun t ht => .inl ?_⟩
   have a := nF_step h t
   rw [← ht] at a
   have d : (nF F t + nF F s0) * 2^g < (nF F s0 + nF F s0) * 2^g := Nat.mul_lt_mul_of_pos_right (by omega) hp
   rw [Nat.add_mul (nF F s0)] at d
   show (nF F t + nF F (t + 1)) * 2^g < 2 * V
   rw [← ht]
   omega
theorem rsz_nst {f : Int} {F : Fmt} (h : Fm f F) (g V : Nat) : Nst F g V (rsz F g V) := by
 obtain ⟨h0, -, -, h2, -, hm, -, -, hm1⟩ := fm_hd h
 unfold rsz
 obtain ⟨k, hk⟩ : ∃ k, k = max (bl V - F.man) g := ⟨_, rfl⟩
 obtain ⟨j, hj⟩ : ∃ j, j = k - g := ⟨_, rfl⟩
 have hkj : k = j + g := by omega
 rw [← hk, ← hj]
 obtain ⟨q, hq⟩ : ∃ q, q = V / 2^k := ⟨_, rfl⟩
 obtain ⟨r, hr⟩ : ∃ r, r = V % 2^k := ⟨_, rfl⟩
 have hV : V = 2^k * q + r := by rw [hq, hr]; exact (Nat.div_add_mod _ _).symm
 have hp := Nat.two_pow_pos k
 have hrk : r < 2^k := by rw [hr]; exact Nat.mod_lt _ hp
 have e2m : 2 * hdF F = 2^F.man := by rw [hm, Nat.mul_comm, ← Nat.pow_succ, show (F.man - 1).succ = F.man by omega]
 have q1 : q < 2 * hdF F := by
  rw [hq, e2m, Nat.div_lt_iff_lt_mul hp, ← Nat.pow_add]
  exact Nat.lt_of_lt_of_le (bl_lt V) (Nat.pow_le_pow_right (by decide) (by omega))
 have q2 : j = 0 ∨ hdF F ≤ q := by
  by_cases c : j = 0
  ·exact .inl c
  ·right
   have hb : bl V = F.man + k := by omega
   have h0' : V ≠ 0 := by
    intro e
    rw [e] at hb
    have : bl 0 = 0 := rfl
    omega
   have := bl_ge h0'
   rw [hb] at this
   rw [hq, hm, Nat.le_div_iff_mul_le hp, ← Nat.pow_add]
   rwa [show F.man - 1 + k = F.man + k - 1 by omega]
 obtain ⟨a1, a2⟩ := nF_at h q1 q2
 have a3 := nF_next h (j * hdF F + q)
 rw [a1, a2] at a3
 have e3 : q * 2^j * 2^g = 2^k * q := by rw [Nat.mul_assoc, ← Nat.pow_add, ← hkj, Nat.mul_comm]
 have e4 : (q * 2^j + 2^j) * 2^g = 2^k * q + 2^k := by rw [Nat.add_mul, e3, ← Nat.pow_add, ← hkj]
 have key := nst_of h (g := g) (V := V) (s0 := j * hdF F + q) (by rw [a1, e3]; omega) (by rw [a3, e4]; omega)
 have em : md F g (j * hdF F + q) = 2 * (2^k * q) + 2^k := by
  unfold md
  rw [a1, a3, Nat.add_mul, e3, e4]; omega
 have ep : (j * hdF F + q) % 2 = q % 2 := by
  have : j * hdF F % 2 = 0 := by rw [Nat.mul_mod, h2, Nat.mul_zero]
  omega
 rw [em, ep] at key
 have e5 : (2 * (2^k * q) + 2^k < 2 * V ∨ (2 * V = 2 * (2^k * q) + 2^k ∧ q % 2 = 1)) ↔ (2^k < 2 * r ∨ (2 * r = 2^k ∧ q % 2 = 1)) := by omega
 simp only [e5] at key
 unfold nr
 rw [← hq, ← hr, ← Nat.add_assoc]
 exact key
theorem rsz_eq {f : Int} {F : Fmt} (h : Fm f F) {g V s : Nat} (a : Nst F g V s) : rsz F g V = s := nst_uniq h (rsz_nst h g V) a
end Go.Proofs.YtelfmddcjlocpaaGreatDoor.Rnd
