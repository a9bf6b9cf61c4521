/- Rounding of whole numbers to 53 binary digits (to nearest, ties to even), the exact sums and products of floats, and the model's binary64 words as whole numbers of units 2^-1074. Plain Lean; no program in sight. No condition. -/
import Ieee.Arith
import Derived.Laws.FloatBits
namespace Fl
theorem pw (k : Nat) : 0 < (2:Nat)^k := Nat.two_pow_pos k
theorem ipw (k : Nat) : 0 < (2:Int)^k := Int.pow_pos (by decide)
def rhe (n k : Nat) : Nat :=
 n / 2^k + (if 2^k < 2 * (n % 2^k) ∨ (2^k = 2 * (n % 2^k) ∧ (n / 2^k) % 2 = 1) then 1 else 0)
theorem rhe_err (n k : Nat) : 2 * (rhe n k * 2^k) ≤ 2 * n + 2^k ∧ 2 * n ≤ 2 * (rhe n k * 2^k) + 2^k := by
 have hd := Nat.div_add_mod n (2^k)
 have hm := Nat.mod_lt n (pw k)
 unfold rhe
 generalize n % 2^k = r at *
 generalize hq : n / 2^k = q at *
 generalize 2^k = P at *
 split <;> rename_i h
 ·rw [Nat.add_mul, Nat.one_mul, Nat.mul_comm q P]
  rcases h with h | ⟨h, _⟩ <;> omega
 ·rw [Nat.add_zero, Nat.mul_comm q P]
  have : ¬ P < 2 * r := fun x => h (Or.inl x)
  omega
theorem rhe_lo {n k m : Nat} (h : m * 2^k ≤ n) : m ≤ rhe n k := by
 have : m ≤ n / 2^k := (Nat.le_div_iff_mul_le (pw k)).2 h
 unfold rhe; omega
theorem rhe_hi {n k m : Nat} (h : n ≤ m * 2^k) : rhe n k ≤ m := by
 have he := (rhe_err n k).1
 have hp := pw k
 by_cases hc : rhe n k ≤ m
 ·exact hc
 ·have : m + 1 ≤ rhe n k := by omega
  have h2 : (m + 1) * 2^k ≤ rhe n k * 2^k := Nat.mul_le_mul_right _ this
  rw [Nat.add_mul, Nat.one_mul] at h2
  omega
theorem rhe_exact {n k : Nat} (h : 2^k ∣ n) : rhe n k * 2^k = n := by
 have hz : n % 2^k = 0 := Nat.mod_eq_zero_of_dvd h
 have hd := Nat.div_add_mod n (2^k)
 have hp := pw k
 unfold rhe
 rw [hz] at *
 rw [if_neg (by omega), Nat.add_zero, Nat.mul_comm]
 omega
theorem rhe_scale (n k d : Nat) : rhe (n * 2^d) (k + d) = rhe n k := by
 have hp := pw d
 have e1 : n * 2^d / 2^(k+d) = n / 2^k := by
  rw [Nat.pow_add, Nat.mul_comm (2^k), Nat.mul_comm n, Nat.mul_div_mul_left _ _ hp]
 have e2 : n * 2^d % 2^(k+d) = n % 2^k * 2^d := by
  rw [Nat.pow_add, Nat.mul_mod_mul_right]
 unfold rhe
 rw [e1, e2]
 have e3 : (2^(k+d) < 2 * (n % 2^k * 2^d)) ↔ (2^k < 2 * (n % 2^k)) := by
  rw [Nat.pow_add, ← Nat.mul_assoc]
  exact Nat.mul_lt_mul_right hp
 have e4 : (2^(k+d) = 2 * (n % 2^k * 2^d)) ↔ (2^k = 2 * (n % 2^k)) := by
  rw [Nat.pow_add, ← Nat.mul_assoc]
  exact Nat.mul_right_cancel_iff hp ..
 simp only [e3, e4]
def kx (g n : Nat) : Nat := max (n.log2 - 52) g
theorem kx_ge (g n : Nat) : g ≤ kx g n := Nat.le_max_right _ _
theorem kx_lt (g n : Nat) : n < 2^53 * 2^(kx g n) := by
 have h1 : n < 2^(n.log2 + 1) := Nat.lt_log2_self
 have h2 : 2^(n.log2+1) ≤ 2^(53 + kx g n) := Nat.pow_le_pow_right (by decide) (by unfold kx; omega)
 rw [← Nat.pow_add]
 omega
theorem kx_le {g n : Nat} (h : kx g n ≠ g) : 2^52 * 2^(kx g n) ≤ n := by
 have hk : kx g n = n.log2 - 52 := by unfold kx at *; omega
 have h0 : n ≠ 0 := by
  intro h0; subst h0; apply h; unfold kx; rw [Nat.log2_zero]; omega
 have h1 : 2^n.log2 ≤ n := Nat.log2_self_le h0
 have hl : 52 ≤ n.log2 := by unfold kx at *; omega
 rw [← Nat.pow_add, hk]
 have : 52 + (n.log2 - 52) = n.log2 := by omega
 rw [this]; exact h1
theorem kx_of {g n k : Nat} (hg : g ≤ k) (h1 : n < 2^53 * 2^k) (h2 : k = g ∨ 2^52 * 2^k ≤ n) : kx g n = k := by
 have ha := kx_lt g n
 have hb := kx_ge g n
 by_cases hlt : kx g n < k
 ·rcases h2 with h2 | h2
  ·omega
  ·have : 2^53 * 2^(kx g n) ≤ 2^52 * 2^k := by
    rw [← Nat.pow_add, ← Nat.pow_add]; exact Nat.pow_le_pow_right (by decide) (by omega)
   omega
 ·by_cases hgt : k < kx g n
  ·have hc := kx_le (g := g) (n := n) (by omega)
   have : 2^53 * 2^k ≤ 2^52 * 2^(kx g n) := by
    rw [← Nat.pow_add, ← Nat.pow_add]; exact Nat.pow_le_pow_right (by decide) (by omega)
   omega
  ·omega
def rn (g n : Nat) : Nat := rhe n (kx g n) * 2^(kx g n)
theorem rn_scale (g n d : Nat) : rn (g + d) (n * 2^d) = rn g n * 2^d := by
 have hk : kx (g + d) (n * 2^d) = kx g n + d := by
  apply kx_of
  ·have := kx_ge g n; omega
  ·have := kx_lt g n
   rw [Nat.pow_add, ← Nat.mul_assoc]
   exact Nat.mul_lt_mul_of_pos_right this (pw d)
  ·by_cases h : kx g n = g
   ·left; omega
   ·right
    have := kx_le h
    rw [Nat.pow_add, ← Nat.mul_assoc]
    exact Nat.mul_le_mul_right _ this
 unfold rn
 rw [hk, rhe_scale, Nat.pow_add, Nat.mul_assoc]
theorem rn_le (g n : Nat) : rn g n ≤ 2^53 * 2^(kx g n) :=
 Nat.mul_le_mul_right _ (rhe_hi (Nat.le_of_lt (kx_lt g n)))
def isF (g : Nat) (v : Int) : Prop := ∃ j, g ≤ j ∧ (2:Int)^j ∣ v ∧ v.natAbs ≤ 2^53 * 2^j
theorem isF_neg {g : Nat} {v : Int} (h : isF g v) : isF g (-v) := by
 obtain ⟨j, a, b, c⟩ := h
 exact ⟨j, a, Int.dvd_neg.2 b, by simpa using c⟩
theorem isF_zero (g : Nat) : isF g 0 := ⟨g, Nat.le_refl _, Int.dvd_zero _, by simp⟩
def rnI (g : Nat) (v : Int) : Int := if v < 0 then -(rn g v.natAbs : Nat) else (rn g v.natAbs : Nat)
theorem rnI_neg (g : Nat) (v : Int) : rnI g (-v) = - rnI g v := by
 unfold rnI
 rw [Int.natAbs_neg]
 by_cases h : v = 0
 ·subst h
  have : rn g 0 = 0 := by
   have := rhe_exact (n := 0) (k := kx g 0) (Nat.dvd_zero _)
   exact this
  simp [this]
 ·by_cases h1 : v < 0
  ·rw [if_pos h1, if_neg (by omega)]; omega
  ·rw [if_neg h1, if_pos (by omega)]
theorem rnI_natAbs (g : Nat) (v : Int) : (rnI g v).natAbs = rn g v.natAbs := by
 unfold rnI; split <;> simp
theorem rnI_scale (g : Nat) (v : Int) (d : Nat) : rnI (g + d) (v * 2^d) = rnI g v * 2^d := by
 have hp := ipw d
 have e : (v * 2^d).natAbs = v.natAbs * 2^d := by
  rw [Int.natAbs_mul, Int.natAbs_pow]; rfl
 unfold rnI
 rw [e, rn_scale]
 by_cases h : v < 0
 ·rw [if_pos h, if_pos (Int.mul_neg_of_neg_of_pos h hp)]
  push_cast; rw [Int.neg_mul]
 ·rw [if_neg h, if_neg (by have := Int.mul_nonneg (show 0 ≤ v by omega) (Int.le_of_lt hp); omega)]
  push_cast; rfl
def ke (g : Nat) (v : Int) : Nat := kx g v.natAbs
theorem ke_ge (g : Nat) (v : Int) : g ≤ ke g v := kx_ge g _
theorem ke_lt (g : Nat) (v : Int) : (v.natAbs : Int) < 2^53 * 2^(ke g v) := by
 have := kx_lt g v.natAbs
 unfold ke
 exact_mod_cast this
theorem ke_le {g : Nat} {v : Int} (h : ke g v ≠ g) : 2^52 * (2:Int)^(ke g v) ≤ v.natAbs := by
 have := kx_le (g := g) (n := v.natAbs) h
 unfold ke
 exact_mod_cast this
theorem natAbs_dvd' {k : Nat} {v : Int} : (2:Int)^k ∣ v ↔ 2^k ∣ v.natAbs := by
 rw [← Int.natAbs_dvd_natAbs, Int.natAbs_pow]; rfl
theorem rnI_dvd (g : Nat) (v : Int) : (2:Int)^(ke g v) ∣ rnI g v := by
 rw [natAbs_dvd', rnI_natAbs]
 exact Nat.dvd_mul_left _ _
theorem rnI_err (g : Nat) (v : Int) : 2 * (rnI g v - v).natAbs ≤ (2:Int)^(ke g v) := by
 have h := rhe_err v.natAbs (kx g v.natAbs)
 have e : (2:Int)^(ke g v) = ((2^(kx g v.natAbs) : Nat) : Int) := by unfold ke; push_cast; rfl
 rw [e]
 unfold rnI rn
 generalize rhe v.natAbs (kx g v.natAbs) * 2 ^ kx g v.natAbs = r at *
 generalize 2 ^ kx g v.natAbs = P at *
 split <;> omega
theorem rnI_le (g : Nat) (v : Int) : ((rnI g v).natAbs : Int) ≤ 2^53 * 2^(ke g v) := by
 rw [rnI_natAbs]
 have := rn_le g v.natAbs
 unfold ke
 exact_mod_cast this
theorem rnI_isF (g : Nat) (v : Int) : isF g (rnI g v) :=
 ⟨ke g v, ke_ge g v, rnI_dvd g v, by have := rnI_le g v; exact_mod_cast this⟩
theorem dvd_pow_le {i j : Nat} (h : i ≤ j) : (2:Int)^i ∣ 2^j := ⟨2^(j-i), by rw [← Int.pow_add]; congr 1; omega⟩
theorem isF_dvd {g : Nat} {v : Int} (h : isF g v) : (2:Int)^(ke g v) ∣ v := by
 obtain ⟨j, hg, hd, hb⟩ := h
 by_cases hlt : v.natAbs < 2^53 * 2^j
 ·have hk : ke g v ≤ j := by
   by_cases hk : ke g v = g
   ·omega
   ·have h1 : 2^52 * 2^(kx g v.natAbs) ≤ v.natAbs := kx_le hk
    unfold ke
    by_cases h2 : kx g v.natAbs ≤ j
    ·exact h2
    ·have : 2^53 * 2^j ≤ 2^52 * 2^(kx g v.natAbs) := by
      rw [← Nat.pow_add, ← Nat.pow_add]; exact Nat.pow_le_pow_right (by decide) (by omega)
     omega
  exact Int.dvd_trans (dvd_pow_le hk) hd
 ·have he : v.natAbs = 2^53 * 2^j := by omega
  have hk : ke g v = j + 1 := by
   unfold ke
   apply kx_of
   ·omega
   ·rw [he, Nat.pow_succ]; have := pw j; omega
   ·right; rw [he, Nat.pow_succ]; omega
  rw [hk, natAbs_dvd', he, Nat.pow_succ]
  exact ⟨2^52, by omega⟩
theorem rnI_exact {g : Nat} {v : Int} (h : isF g v) : rnI g v = v := by
 have hd := isF_dvd h
 rw [natAbs_dvd'] at hd
 have : rn g v.natAbs = v.natAbs := rhe_exact hd
 unfold rnI
 rw [this]
 split <;> omega
theorem mul_apart {P a b : Int} (hP : 0 < P) (ha : P ∣ a) (hb : P ∣ b) (h : a < b) : a + P ≤ b := by
 obtain ⟨x, rfl⟩ := ha
 obtain ⟨y, rfl⟩ := hb
 have : x < y := by
  by_cases hc : x < y
  ·exact hc
  ·have := Int.mul_le_mul_of_nonneg_left (show y ≤ x by omega) (Int.le_of_lt hP); omega
 have := Int.mul_le_mul_of_nonneg_left (show x + 1 ≤ y by omega) (Int.le_of_lt hP)
 rw [Int.mul_add, Int.mul_one] at this
 exact this
theorem rnI_near {g : Nat} {v f : Int} (hf : isF g f) : (rnI g v - v).natAbs ≤ (f - v).natAbs := by
 have he := rnI_err g v
 have hr := rnI_dvd g v
 have hP := ipw (ke g v)
 have key : ∀ f', (2:Int)^(ke g v) ∣ f' → (rnI g v - v).natAbs ≤ (f' - v).natAbs := by
  intro f' hf'
  generalize rnI g v = r at *
  generalize (2:Int)^(ke g v) = P at *
  by_cases h1 : r < f'
  ·have := mul_apart hP hr hf' h1; omega
  ·by_cases h2 : f' < r
   ·have := mul_apart hP hf' hr h2; omega
   ·have : r = f' := by omega
    subst this; omega
 by_cases hk : ke g v ≤ ke g f
 ·exact key f (Int.dvd_trans (dvd_pow_le hk) (isF_dvd hf))
 ·have hg : ke g v ≠ g := by have := ke_ge g f; omega
  have hv := ke_le hg
  have hfl := ke_lt g f
  have hle : 2^53 * (2:Int)^(ke g f) ≤ 2^52 * 2^(ke g v) := by
   have : 2^53 * 2^(ke g f) ≤ 2^52 * 2^(ke g v) := by
    rw [← Nat.pow_add, ← Nat.pow_add]; exact Nat.pow_le_pow_right (by decide) (by omega)
   exact_mod_cast this
  by_cases hs : v < 0
  ·have := key (-(2^52 * 2^(ke g v))) (Int.dvd_neg.2 (Int.dvd_mul_left _ _))
   omega
  ·have := key (2^52 * 2^(ke g v)) (Int.dvd_mul_left _ _)
   omega
theorem isF_of {g : Nat} {v : Int} (j : Nat) (hg : g ≤ j) (hd : (2:Int)^j ∣ v) (hb : (v.natAbs : Int) ≤ 2^53 * 2^j) : isF g v :=
 ⟨j, hg, hd, by exact_mod_cast hb⟩
end Fl
namespace Fl
theorem rn_dvd_of {g j : Nat} {v : Int} (h : (2:Int)^j ∣ v) : (2:Int)^j ∣ rnI g v := by
 by_cases hk : j ≤ ke g v
 ·exact Int.dvd_trans (dvd_pow_le hk) (rnI_dvd g v)
 ·-- exact
  have hv : isF g v := isF_of (ke g v) (ke_ge g v) (Int.dvd_trans (dvd_pow_le (by omega)) h) (by have := ke_lt g v; omega)
  rw [rnI_exact hv]; exact h
theorem pow_lt_of {i j : Nat} (h : i < j) : 2 * (2:Int)^i ≤ 2^j := by
 have : 2 * 2^i ≤ 2^j := by
  have := Nat.pow_le_pow_right (n := 2) (by decide) (show i + 1 ≤ j by omega)
  rw [Nat.pow_succ] at this; omega
 exact_mod_cast this
theorem pow_le_of {i j : Nat} (h : i ≤ j) : (2:Int)^i ≤ 2^j := by
 have := Nat.pow_le_pow_right (n := 2) (by decide) h
 exact_mod_cast this
theorem ke_mono {g : Nat} {a b : Int} (h : a.natAbs ≤ b.natAbs) : ke g a ≤ ke g b := by
 by_cases hk : ke g a = g
 ·have := ke_ge g b; omega
 ·have h1 := ke_le hk
  have h2 := ke_lt g b
  by_cases hc : ke g a ≤ ke g b
  ·exact hc
  ·have := pow_lt_of (show ke g b < ke g a by omega); omega
theorem err_isF {g : Nat} {a b : Int} (ha : isF g a) (hb : isF g b) : isF g (a + b - rnI g (a + b)) := by
 have core : ∀ {a b : Int}, isF g a → isF g b → b.natAbs ≤ a.natAbs → isF g (a + b - rnI g (a + b)) := by
  intro a b ha hb hle
  have hda := isF_dvd ha
  have hdb := isF_dvd hb
  have hm := ke_mono (g := g) hle
  have hs : (2:Int)^(ke g b) ∣ a + b := Int.dvd_add (Int.dvd_trans (dvd_pow_le hm) hda) hdb
  have hn := rnI_near (g := g) (v := a + b) ha
  refine isF_of (ke g b) (ke_ge g b) (Int.dvd_sub hs (rn_dvd_of hs)) ?_
  have := ke_lt g b
  omega
 by_cases h : b.natAbs ≤ a.natAbs
 ·exact core ha hb h
 ·rw [Int.add_comm a b]; exact core hb ha (by omega)
theorem fast_isF {g : Nat} {a b : Int} (ha : isF g a) (hb : isF g b) (hle : b.natAbs ≤ a.natAbs) : isF g (rnI g (a + b) - a) := by
 have hda := isF_dvd ha
 have hdb := isF_dvd hb
 have hm := ke_mono (g := g) hle
 have hs : (2:Int)^(ke g b) ∣ a + b := Int.dvd_add (Int.dvd_trans (dvd_pow_le hm) hda) hdb
 have hr := rn_dvd_of (g := g) hs
 have hn := rnI_near (g := g) (v := a + b) ha
 have hB := ke_lt g b
 have hP := ipw (ke g b)
 by_cases hk : ke g (a + b) ≤ ke g b
 ·-- exact
  have hx : isF g (a + b) := isF_of (ke g (a+b)) (ke_ge _ _) (Int.dvd_trans (dvd_pow_le hk) hs) (by have := ke_lt g (a+b); omega)
  rw [rnI_exact hx]
  have : a + b - a = b := by omega
  rw [this]; exact hb
 ·by_cases hi : ke g b < ke g a
  ·-- both are multiples of twice the last place
   have e : (2:Int)^(ke g b + 1) = 2 * 2^(ke g b) := by rw [Int.pow_succ]; omega
   refine isF_of (ke g b + 1) (by have := ke_ge g b; omega) (Int.dvd_sub ?_ ?_) ?_
   ·exact Int.dvd_trans (dvd_pow_le (by omega)) (rnI_dvd g (a + b))
   ·exact Int.dvd_trans (dvd_pow_le (by omega)) hda
   ·rw [e]; omega
  ·have hi' : ke g a = ke g b := by omega
   have hA := ke_lt g a
   rw [hi'] at hA
   have hke : ke g (a + b) = ke g b + 1 := by
    have h1 := ke_le (g := g) (v := a + b) (by have := ke_ge g b; omega)
    by_cases hc : ke g b + 1 < ke g (a + b)
    ·have := pow_lt_of hc
     have e : (2:Int)^(ke g b + 1) = 2 * 2^(ke g b) := by rw [Int.pow_succ]; omega
     omega
    ·omega
   have he := rnI_err g (a + b)
   rw [hke, Int.pow_succ] at he
   refine isF_of (ke g b) (ke_ge g b) (Int.dvd_sub hr (Int.dvd_trans (dvd_pow_le hm) hda)) ?_
   have hbb : (b.natAbs : Int) + 2^(ke g b) ≤ 2^53 * 2^(ke g b) := by
    apply mul_apart hP _ (Int.dvd_mul_left _ _) hB
    rw [natAbs_dvd'] at hdb
    exact_mod_cast hdb
   omega
theorem fast_sum {g : Nat} {a b : Int} (ha : isF g a) (hb : isF g b) (hle : a = 0 ∨ b.natAbs ≤ a.natAbs) :
  rnI g (rnI g (a + b) - a) = rnI g (a + b) - a ∧ rnI g (b - (rnI g (a + b) - a)) = a + b - rnI g (a + b) := by
 have h1 : isF g (rnI g (a + b) - a) := by
  rcases hle with h | h
  ·subst h
   rw [Int.zero_add, rnI_exact hb, Int.sub_zero]; exact hb
  ·exact fast_isF ha hb h
 refine ⟨rnI_exact h1, ?_⟩
 have e : b - (rnI g (a + b) - a) = a + b - rnI g (a + b) := by omega
 rw [e]
 exact rnI_exact (err_isF ha hb)
theorem two_sum_in {g : Nat} {a b s bb aa : Int} (ha : isF g a) (hb : isF g b) (hs : s = rnI g (a + b)) (hbb : bb = rnI g (s - a)) (haa : aa = rnI g (s - bb)) :
  rnI g (a - aa) + rnI g (b - bb) = a + b - s := by
 have hsF : isF g s := by rw [hs]; exact rnI_isF _ _
 by_cases h : b.natAbs ≤ a.natAbs
 ·have h1 : bb = s - a := by rw [hbb, hs]; exact rnI_exact (fast_isF ha hb h)
  have h2 : aa = a := by
   rw [haa, h1]
   have : s - (s - a) = a := by omega
   rw [this]; exact rnI_exact ha
  have h3 : isF g (b - bb) := by
   have : b - bb = a + b - rnI g (a + b) := by rw [h1, hs]; omega
   rw [this]; exact err_isF ha hb
  rw [h2, Int.sub_self, rnI_exact (isF_zero g), rnI_exact h3, h1]
  omega
 ·have hlt : a.natAbs < b.natAbs := by omega
  by_cases hx : isF g (a + b)
  ·have h0 : s = a + b := by rw [hs]; exact rnI_exact hx
   have h1 : bb = b := by
    rw [hbb, h0]
    have : a + b - a = b := by omega
    rw [this]; exact rnI_exact hb
   have h2 : aa = a := by
    rw [haa, h0, h1]
    have : a + b - b = a := by omega
    rw [this]; exact rnI_exact ha
   rw [h2, h1, Int.sub_self, Int.sub_self, rnI_exact (isF_zero g), h0]
   omega
  ·-- the sum is rounded: it isn't smaller than a
   have hda := isF_dvd ha
   have hdb := isF_dvd hb
   have hm := ke_mono (g := g) (Nat.le_of_lt hlt)
   have hsd : (2:Int)^(ke g a) ∣ a + b := Int.dvd_add hda (Int.dvd_trans (dvd_pow_le hm) hdb)
   have hkk : ke g a < ke g (a + b) := by
    by_cases hc : ke g a < ke g (a + b)
    ·exact hc
    ·exact absurd (isF_of (ke g (a+b)) (ke_ge _ _) (Int.dvd_trans (dvd_pow_le (by omega)) hsd) (by have := ke_lt g (a+b); omega)) hx
   have hsa : a.natAbs ≤ s.natAbs := by
    have h1 := ke_le (g := g) (v := a + b) (by have := ke_ge g a; omega)
    have h2 := ke_lt g a
    have h3 := pow_lt_of hkk
    have h4 : rhe (a+b).natAbs (kx g (a+b).natAbs) ≥ 2^52 := rhe_lo (by unfold ke at h1; exact_mod_cast h1)
    have h5 : 2^52 * 2^(ke g (a+b)) ≤ s.natAbs := by
     rw [hs, rnI_natAbs]
     exact Nat.mul_le_mul_right _ h4
    have h6 : 2^52 * (2:Int)^(ke g (a+b)) ≤ s.natAbs := by exact_mod_cast h5
    omega
   have f1 := fast_isF (g := g) hsF (isF_neg ha) (by rw [Int.natAbs_neg]; exact hsa)
   have f2 := err_isF (g := g) hsF (isF_neg ha)
   have e1 : s + -a = s - a := by omega
   rw [e1, ← hbb] at f1 f2
   have h2 : aa = s - bb := by
    rw [haa]
    apply rnI_exact
    have : s - bb = -(bb - s) := by omega
    rw [this]; exact isF_neg f1
   have h3 : isF g (a - aa) := by
    have : a - aa = -(s - a - bb) := by rw [h2]; omega
    rw [this]; exact isF_neg f2
   have h4 : isF g (b - bb) := by
    have hB := ke_lt g b
    have herr := rnI_err g (a + b)
    rw [← hs] at herr
    have hkab : ke g (a + b) ≤ ke g b + 1 := by
     by_cases hc : ke g (a + b) ≤ ke g b + 1
     ·exact hc
     ·have h1 := ke_le (g := g) (v := a + b) (by have := ke_ge g b; omega)
      have := pow_lt_of (show ke g b + 1 < ke g (a + b) by omega)
      have e : (2:Int)^(ke g b + 1) = 2 * 2^(ke g b) := by rw [Int.pow_succ]; omega
      omega
    have hE := pow_le_of hkab
    rw [Int.pow_succ] at hE
    have hn := rnI_near (g := g) (v := s - a) hb
    rw [← hbb] at hn
    have hsz : ((b - bb).natAbs : Int) ≤ 2 * 2^(ke g b) := by omega
    by_cases hg : ke g b = g
    ·refine isF_of g (Nat.le_refl _) (Int.dvd_sub (by rw [← hg]; exact hdb) ?_) ?_
     ·rw [hbb]; exact Int.dvd_trans (dvd_pow_le (ke_ge g (s - a))) (rnI_dvd g (s - a))
     ·rw [← hg]; omega
    ·have hbl := ke_le hg
     obtain ⟨j, hj⟩ : ∃ j, ke g b = j + 1 := ⟨ke g b - 1, by have := ke_ge g b; omega⟩
     have hgj : g ≤ j := by have := ke_ge g b; omega
     have hdj : (2:Int)^j ∣ b := Int.dvd_trans (dvd_pow_le (by omega)) hdb
     have hpj : (2:Int)^(ke g b) = 2 * 2^j := by rw [hj, Int.pow_succ]; omega
     refine isF_of j hgj (Int.dvd_sub hdj ?_) ?_
     ·have hk : j ≤ ke g (s - a) := by
       by_cases hc : j ≤ ke g (s - a)
       ·exact hc
       ·have := ke_lt g (s - a)
        have := pow_lt_of (show ke g (s - a) < j by omega)
        omega
      rw [hbb]; exact Int.dvd_trans (dvd_pow_le hk) (rnI_dvd g (s - a))
     ·have := ipw j; omega
   rw [rnI_exact h3, rnI_exact h4, h2]
   omega
theorem rn_bound {g : Nat} {v : Int} {m : Nat} (hm : isF g (m : Int)) (h : v.natAbs ≤ m) : (rnI g v).natAbs ≤ m := by
 have h1 := rnI_near (g := g) (v := v) hm
 have h2 := rnI_near (g := g) (v := v) (isF_neg hm)
 have h3 : 0 ≤ v → 0 ≤ rnI g v := by
  intro h0; unfold rnI; rw [if_neg (by omega)]; omega
 have h4 : v < 0 → rnI g v ≤ 0 := by
  intro h0; unfold rnI; rw [if_pos h0]; omega
 omega
end Fl
namespace Fl
theorem mul_ge_of_dvd {P a b : Int} (hP : 0 < P) (ha : P ∣ a) (hb : P ∣ b) (h : a < b + P) : a ≤ b := by
 by_cases hc : a ≤ b
 ·exact hc
 ·have := mul_apart hP hb ha (by omega); omega
theorem near_mul {G : Int} (hG : 0 < G) (v : Int) : ∃ f, G ∣ f ∧ 2 * (f - v) ≤ G ∧ 2 * (v - f) ≤ G := by
 have h1 := Int.emod_add_mul_ediv v G
 have h2 := Int.emod_nonneg v (show G ≠ 0 by omega)
 have h3 := Int.emod_lt_of_pos v hG
 by_cases h : 2 * (v % G) ≤ G
 ·exact ⟨G * (v / G), Int.dvd_mul_right _ _, by omega, by omega⟩
 ·refine ⟨G * (v / G) + G, Int.dvd_add (Int.dvd_mul_right _ _) (Int.dvd_refl _), by omega, by omega⟩
def hx (g : Nat) (a : Int) : Nat := max (a.natAbs.log2 + 1 - 26) g
theorem hx_ge (g : Nat) (a : Int) : g ≤ hx g a := Nat.le_max_right _ _
theorem hx_lt (g : Nat) (a : Int) : (a.natAbs : Int) < 2^26 * 2^(hx g a) := by
 have h1 : a.natAbs < 2^(a.natAbs.log2 + 1) := Nat.lt_log2_self
 have h2 : 2^(a.natAbs.log2+1) ≤ 2^(26 + hx g a) := Nat.pow_le_pow_right (by decide) (by unfold hx; omega)
 have h3 : a.natAbs < 2^26 * 2^(hx g a) := by rw [← Nat.pow_add]; omega
 exact_mod_cast h3
theorem hx_le {g : Nat} {a : Int} (h : hx g a ≠ g) : 2^25 * (2:Int)^(hx g a) ≤ a.natAbs := by
 have hk : hx g a = a.natAbs.log2 + 1 - 26 := by unfold hx at *; omega
 have hl : 26 ≤ a.natAbs.log2 := by unfold hx at *; omega
 have h0 : a.natAbs ≠ 0 := by intro h0; rw [h0, Nat.log2_zero] at hl; omega
 have h1 : 2^a.natAbs.log2 ≤ a.natAbs := Nat.log2_self_le h0
 have h2 : 2^25 * 2^(hx g a) ≤ a.natAbs := by
  rw [← Nat.pow_add, hk]
  have : 25 + (a.natAbs.log2 + 1 - 26) = a.natAbs.log2 := by omega
  rw [this]; exact h1
 exact_mod_cast h2
theorem hx_ke (g : Nat) (a : Int) : ke g a ≤ hx g a ∧ hx g a ≤ ke g a + 27 := by
 unfold ke kx hx; omega
theorem pow27 {i j : Nat} (h : i ≤ j + 27) : (2:Int)^i ≤ 2^27 * 2^j := by
 have := Nat.pow_le_pow_right (n := 2) (by decide) h
 rw [Nat.pow_add, Nat.mul_comm] at this
 exact_mod_cast this
structure Cut (g : Nat) (a h l : Int) : Prop where
 sum : h + l = a
 top : (2:Int)^(hx g a) ∣ h
 high : (h.natAbs : Int) ≤ 2^26 * 2^(hx g a)
 low : 2 * (l.natAbs : Int) ≤ 2^(hx g a)
 place : (2:Int)^(ke g a) ∣ l
 small : a = 0 ∧ l = 0 ∨ 2^26 * l.natAbs < a.natAbs
theorem cut_neg {g : Nat} {a h l : Int} (c : Cut g a h l) : Cut g (-a) (-h) (-l) := by
 obtain ⟨c1, c2, c3, c4, c5, c6⟩ := c
 have e : hx g (-a) = hx g a := by unfold hx; rw [Int.natAbs_neg]
 have e' : ke g (-a) = ke g a := by unfold ke; rw [Int.natAbs_neg]
 refine ⟨by omega, by rw [e]; exact Int.dvd_neg.2 c2, by rw [e, Int.natAbs_neg]; exact c3, by rw [e, Int.natAbs_neg]; exact c4, by rw [e']; exact Int.dvd_neg.2 c5, by omega⟩
theorem isF_mulpow {g : Nat} {v : Int} (h : isF g v) (k : Nat) : isF g (2^k * v) := by
 obtain ⟨j, a, b, c⟩ := h
 refine ⟨j + k, by omega, ?_, ?_⟩
 ·rw [Int.pow_add, Int.mul_comm]; exact Int.mul_dvd_mul_left _ b
 ·rw [Int.natAbs_mul, Int.natAbs_pow, Nat.pow_add, Nat.mul_comm (2^j), ← Nat.mul_assoc, Nat.mul_comm (2^53), Nat.mul_assoc]
  exact Nat.mul_le_mul_left _ c
theorem split_pos {g : Nat} {a c d h l : Int} (ha : isF g a) (h0 : 0 < a) (hc : c = rnI g (134217729 * a)) (hd : d = rnI g (c - a)) (hh : h = rnI g (c - d)) (hl : l = rnI g (a - h)) :
  Cut g a h l := by
 have hda := isF_dvd ha
 have hlt := hx_lt g a
 have hk := hx_ke g a
 by_cases hg : hx g a = g
 ·-- at most 26 digits: all is exact
  have hkg : ke g a = g := by have := ke_ge g a; omega
  have c1 : c = 134217729 * a := by
   rw [hc]; apply rnI_exact
   refine isF_of g (Nat.le_refl _) (Int.dvd_trans (by rw [← hkg]; exact hda) (Int.dvd_mul_left _ _)) ?_
   rw [hg] at hlt
   have := mul_apart (ipw g) (by rw [← hkg]; exact hda) (Int.dvd_mul_left _ _) (show a < 2^26 * 2^g by omega)
   omega
  have d1 : d = 2^27 * a := by
   rw [hd, c1]
   have : 134217729 * a - a = 2^27 * a := by omega
   rw [this]; exact rnI_exact (isF_mulpow ha 27)
  have h1 : h = a := by
   rw [hh, c1, d1]
   have : 134217729 * a - 2^27 * a = a := by omega
   rw [this]; exact rnI_exact ha
  have l1 : l = 0 := by rw [hl, h1, Int.sub_self]; exact rnI_exact (isF_zero g)
  refine ⟨by omega, by rw [hg, h1, ← hkg]; exact hda, by rw [h1]; omega, by rw [l1]; have := ipw (hx g a); omega, by rw [l1]; exact Int.dvd_zero _, Or.inr (by rw [l1]; omega)⟩
 ·have hge := hx_le hg
  have hgg := hx_ge g a
  have hGJ := pow27 hk.2
  have hJ := ipw (ke g a)
  have hJG := pow_le_of hk.1
  have hG := ipw (hx g a)
  have hJdG : (2:Int)^(ke g a) ∣ 2^(hx g a) := dvd_pow_le hk.1
  have a1 : a + 2^(ke g a) ≤ 2^26 * 2^(hx g a) := mul_apart hJ hda (Int.dvd_trans hJdG (Int.dvd_mul_left _ _)) (by omega)
  have a2 : a = 2^25 * 2^(hx g a) ∨ 2^25 * 2^(hx g a) + 2^(ke g a) ≤ a := by
   by_cases e : a = 2^25 * 2^(hx g a)
   ·exact Or.inl e
   ·exact Or.inr (mul_apart hJ (Int.dvd_trans hJdG (Int.dvd_mul_left _ _)) hda (by omega))
  have kc1 : hx g a ≤ ke g (134217729 * a) := by
   by_cases hcx : hx g a ≤ ke g (134217729 * a)
   ·exact hcx
   ·have := ke_lt g (134217729 * a)
    have := pow_lt_of (show ke g (134217729 * a) < hx g a by omega)
    omega
  have kc2 : ke g (134217729 * a) ≤ hx g a + 1 := by
   by_cases hcx : ke g (134217729 * a) ≤ hx g a + 1
   ·exact hcx
   ·have := ke_le (g := g) (v := 134217729 * a) (by omega)
    have := pow_lt_of (show hx g a + 1 < ke g (134217729 * a) by omega)
    have e : (2:Int)^(hx g a + 1) = 2 * 2^(hx g a) := by rw [Int.pow_succ]; omega
    omega
  have cd : (2:Int)^(hx g a) ∣ c := by rw [hc]; exact Int.dvd_trans (dvd_pow_le kc1) (rnI_dvd _ _)
  have ce := rnI_err g (134217729 * a)
  rw [← hc] at ce
  have kc3 := pow_le_of kc2
  have e1 : (2:Int)^(hx g a + 1) = 2 * 2^(hx g a) := by rw [Int.pow_succ]; omega
  rw [e1] at kc3
  have hx25 : a = 2^25 * 2^(hx g a) → c = 134217729 * a := by
   intro e
   rw [hc]; apply rnI_exact
   refine isF_of (hx g a) hgg ?_ (by omega)
   exact Int.dvd_trans ⟨2^25, by omega⟩ (Int.dvd_mul_left _ _)
  generalize hGe : (2:Int)^(hx g a) = G at *
  generalize hJe : (2:Int)^(ke g a) = J at *
  have b1 : 2^52 * G ≤ c - a := by
   rcases a2 with e | e
   ·have := hx25 e; omega
   ·omega
  have b2 : c - a ≤ 2^53 * G := by omega
  have kd : hx g a ≤ ke g (c - a) := by
   by_cases hcx : hx g a ≤ ke g (c - a)
   ·exact hcx
   ·have := ke_lt g (c - a)
    have := pow_lt_of (show ke g (c - a) < hx g a by omega)
    omega
  have dd : G ∣ d := by rw [hd, ← hGe]; exact Int.dvd_trans (dvd_pow_le kd) (rnI_dvd _ _)
  obtain ⟨f, f1, f2, f3⟩ := near_mul hG (c - a)
  have f4 : f ≤ 2^53 * G := mul_ge_of_dvd hG f1 (Int.dvd_mul_left _ _) (by omega)
  have fF : isF g f := isF_of (hx g a) hgg (by rw [hGe]; exact f1) (by omega)
  have de := rnI_near (v := c - a) fF
  rw [← hd] at de
  have de2 : 2 * ((d - (c - a)).natAbs : Int) ≤ G := by omega
  have hcd : G ∣ c - d := Int.dvd_sub cd dd
  have h3 : c - d ≤ 2^26 * G := mul_ge_of_dvd hG hcd (Int.dvd_mul_left _ _) (by omega)
  have h1 : h = c - d := by
   rw [hh]; apply rnI_exact
   exact isF_of (hx g a) hgg (by rw [hGe]; exact hcd) (by omega)
  have ld : J ∣ a - h := Int.dvd_sub hda (by rw [h1]; exact Int.dvd_trans hJdG hcd)
  have l1 : l = a - h := by
   rw [hl]; apply rnI_exact
   exact isF_of (ke g a) (ke_ge _ _) (by rw [hJe]; exact ld) (by omega)
  refine ⟨by omega, by rw [hGe, h1]; exact hcd, by rw [hGe]; omega, by rw [hGe]; omega, by rw [hJe, l1]; exact ld, Or.inr ?_⟩
  rcases a2 with e | e
  ·-- l is nought
   have c1 := hx25 e
   have : isF g (c - a) := by
    have : c - a = 2^27 * a := by omega
    rw [this]; exact isF_mulpow ha 27
   have d1 : d = c - a := by rw [hd]; exact rnI_exact this
   have : l = 0 := by omega
   rw [this]; omega
  ·omega
theorem split_all {g : Nat} {a c d h l : Int} (ha : isF g a) (hc : c = rnI g (134217729 * a)) (hd : d = rnI g (c - a)) (hh : h = rnI g (c - d)) (hl : l = rnI g (a - h)) :
  Cut g a h l := by
 by_cases h0 : a = 0
 ·subst h0
  have hz : rnI g 0 = 0 := rnI_exact (isF_zero g)
  have c1 : c = 0 := by rw [hc]; exact hz
  have d1 : d = 0 := by rw [hd, c1]; exact hz
  have h1 : h = 0 := by rw [hh, c1, d1]; exact hz
  have l1 : l = 0 := by rw [hl, h1]; exact hz
  rw [h1, l1]
  exact ⟨rfl, Int.dvd_zero _, by have := ipw (hx g 0); omega, by have := ipw (hx g 0); omega, Int.dvd_zero _, Or.inl ⟨rfl, rfl⟩⟩
 ·by_cases hp : 0 < a
  ·exact split_pos ha hp hc hd hh hl
  ·have := split_pos (a := -a) (c := -c) (d := -d) (h := -h) (l := -l) (isF_neg ha) (by omega)
    (by rw [hc, ← rnI_neg]; congr 1; omega) (by rw [hd, ← rnI_neg]; congr 1; omega) (by rw [hh, ← rnI_neg]; congr 1; omega) (by rw [hl, ← rnI_neg]; congr 1; omega)
   have := cut_neg this
   simpa only [Int.neg_neg] using this
end Fl
namespace Fl
theorem abs_mul_le {x y X Y : Int} (h1 : (x.natAbs : Int) ≤ X) (h2 : (y.natAbs : Int) ≤ Y) : ((x * y).natAbs : Int) ≤ X * Y := by
 rw [Int.natAbs_mul]
 push_cast
 exact Int.mul_le_mul h1 h2 (by omega) (by omega)
theorem abs_mul_lt {x y X Y : Int} (h1 : (x.natAbs : Int) < X) (h2 : (y.natAbs : Int) < Y) : ((x * y).natAbs : Int) < X * Y := by
 obtain ⟨m, rfl⟩ : ∃ m : Nat, X = m := ⟨X.toNat, by omega⟩
 obtain ⟨k, rfl⟩ : ∃ k : Nat, Y = k := ⟨Y.toNat, by omega⟩
 have : x.natAbs * y.natAbs < m * k := Nat.mul_lt_mul'' (by omega) (by omega)
 rw [Int.natAbs_mul]
 exact_mod_cast this
theorem lem1 {u p K ab x y : Int} (h1 : 2 * ((p - ab).natAbs : Int) ≤ K) (h2 : (ab.natAbs : Int) < 2^53 * K) (h3 : 2^26 * (x.natAbs : Int) ≤ ab.natAbs) (h4 : 2^25 * (y.natAbs : Int) ≤ ab.natAbs) (h5 : ab = u + y + x) :
  ((u - p).natAbs : Int) ≤ 2^53 * K := by omega
theorem lem2 {p K ab x : Int} (h1 : 2 * ((p - ab).natAbs : Int) ≤ K) (h2 : (ab.natAbs : Int) < 2^53 * K) (h3 : 2^26 * (x.natAbs : Int) ≤ ab.natAbs) :
  ((ab - p - x).natAbs : Int) ≤ 2^53 * K := by omega
theorem lem3 {p J L ab x : Int} (h1 : 2 * ((ab - p).natAbs : Int) ≤ 2^53 * J) (h2 : (x.natAbs : Int) * 2 ≤ 2^53 * L) (h3 : J ≤ L) :
  ((ab - p - x).natAbs : Int) ≤ 2^53 * L := by omega
theorem lem4 {u W : Int} (h : ((2 * u).natAbs : Int) ≤ W) : (u.natAbs : Int) * 2 ≤ W := by omega
theorem lem5 {p J ab x : Int} (h1 : 2 * ((ab - p).natAbs : Int) ≤ 2^53 * J) (h2 : (x.natAbs : Int) ≤ 2^52 * J) :
  ((ab - p - x).natAbs : Int) ≤ 2^53 * J := by omega
theorem cut_small {g : Nat} {a h l : Int} (c : Cut g a h l) : 2^26 * l.natAbs ≤ a.natAbs := by
 have := c.small; omega
theorem prod_err {g : Nat} {a b : Int} (ha : isF 0 a) (hb : isF 0 b) (hg : g ≤ ke 0 a + ke 0 b) :
  (2:Int)^(ke 0 a + ke 0 b) ∣ a * b ∧ 2 * ((a * b - rnI g (a * b)).natAbs : Int) ≤ 2^53 * 2^(ke 0 a + ke 0 b) ∧ ke g (a * b) ≤ ke 0 a + ke 0 b + 53 := by
 have hd : (2:Int)^(ke 0 a + ke 0 b) ∣ a * b := by
  rw [Int.pow_add]; exact Int.mul_dvd_mul (isF_dvd ha) (isF_dvd hb)
 have hk : ke g (a * b) ≤ ke 0 a + ke 0 b + 53 := by
  by_cases hc : ke g (a * b) ≤ ke 0 a + ke 0 b + 53
  ·exact hc
  ·have h1 := ke_le (g := g) (v := a * b) (by omega)
   have h2 := pow_lt_of (show ke 0 a + ke 0 b + 53 < ke g (a * b) by omega)
   have e : (2:Int)^(ke 0 a + ke 0 b + 53) = 2^53 * 2^(ke 0 a + ke 0 b) := by rw [Int.pow_add _ _ 53, Int.mul_comm]
   have h3 := abs_mul_lt (ke_lt 0 a) (ke_lt 0 b)
   have e2 : 2^53 * (2:Int)^(ke 0 a) * (2^53 * 2^(ke 0 b)) = 2^106 * 2^(ke 0 a + ke 0 b) := by
    rw [Int.pow_add]; generalize (2:Int)^(ke 0 a) = x; generalize (2:Int)^(ke 0 b) = y
    rw [Int.mul_assoc, Int.mul_left_comm x, ← Int.mul_assoc]; rfl
   rw [e2] at h3
   have := ipw (ke 0 a + ke 0 b)
   omega
 refine ⟨hd, ?_, hk⟩
 have he := rnI_err g (a * b)
 have h2 := pow_le_of hk
 have e : (2:Int)^(ke 0 a + ke 0 b + 53) = 2^53 * 2^(ke 0 a + ke 0 b) := by rw [Int.pow_add _ _ 53, Int.mul_comm]
 omega
set_option maxHeartbeats 1000000 in
theorem two_prod {g : Nat} {a b p ah al bh bl x1 e1 x2 e2 x3 e3 x4 e : Int} (ha : isF 0 a) (hb : isF 0 b) (ca : Cut 0 a ah al) (cb : Cut 0 b bh bl)
  (hg : a * b = 0 ∨ g ≤ ke 0 a + ke 0 b) (hp : p = rnI g (a * b))
  (h1 : x1 = rnI g (ah * bh)) (k1 : e1 = rnI g (x1 - p)) (h2 : x2 = rnI g (ah * bl)) (k2 : e2 = rnI g (e1 + x2))
  (h3 : x3 = rnI g (al * bh)) (k3 : e3 = rnI g (e2 + x3)) (h4 : x4 = rnI g (al * bl)) (k4 : e = rnI g (e3 + x4)) :
  p + e = a * b ∧ x1 = ah * bh ∧ x2 = ah * bl ∧ x3 = al * bh ∧ x4 = al * bl ∧ e1 = ah * bh - p ∧ e2 = a * b - p - al * b ∧ e3 = a * b - p - al * bl := by
 have z : rnI g 0 = 0 := rnI_exact (isF_zero g)
 by_cases h0 : a * b = 0
 ·have hz : (ah = 0 ∧ al = 0 ∧ a = 0) ∨ (bh = 0 ∧ bl = 0 ∧ b = 0) := by
   have s1 := ca.small
   have s2 := cb.small
   have t1 := ca.sum
   have t2 := cb.sum
   rcases Int.mul_eq_zero.1 h0 with h | h
   ·left; omega
   ·right; omega
  have p0 : p = 0 := by rw [hp, h0]; exact z
  rcases hz with ⟨y1, y2, y3⟩ | ⟨y1, y2, y3⟩
  ·rw [y1] at h1 h2; rw [y2] at h3 h4
   simp only [Int.zero_mul, z] at h1 h2 h3 h4
   rw [h1, p0] at k1; simp only [Int.sub_self, z] at k1
   rw [k1, h2] at k2; simp only [Int.add_zero, z] at k2
   rw [k2, h3] at k3; simp only [Int.add_zero, z] at k3
   rw [k3, h4] at k4; simp only [Int.add_zero, z] at k4
   simp [p0, k1, k2, k3, k4, h1, h2, h3, h4, y1, y2, y3]
  ·rw [y1] at h1 h3; rw [y2] at h2 h4
   simp only [Int.mul_zero, z] at h1 h2 h3 h4
   rw [h1, p0] at k1; simp only [Int.sub_self, z] at k1
   rw [k1, h2] at k2; simp only [Int.add_zero, z] at k2
   rw [k2, h3] at k3; simp only [Int.add_zero, z] at k3
   rw [k3, h4] at k4; simp only [Int.add_zero, z] at k4
   simp [p0, k1, k2, k3, k4, h1, h2, h3, h4, y1, y2, y3]
 have hg' : g ≤ ke 0 a + ke 0 b := by rcases hg with h | h; exact absurd h h0; exact h
 obtain ⟨dJ, eJ, kJ⟩ := prod_err ha hb hg'
 have ka := hx_ke 0 a
 have kb := hx_ke 0 b
 have pa := pow27 ka.2
 have pb := pow27 kb.2
 have eA := pow_le_of ka.1
 have eB := pow_le_of kb.1
 have errK := rnI_err g (a * b)
 have pK := rnI_dvd g (a * b)
 have ltK := ke_lt g (a * b)
 rw [← hp] at eJ errK pK
 have q26a := cut_small ca
 have q26b := cut_small cb
 have sa := ca.sum
 have sb := cb.sum
 have hKG : ke g (a * b) ≤ hx 0 a + hx 0 b := by
  by_cases hk : ke g (a * b) = g
  ·omega
  ·have t1 := ke_le hk
   have t2 := abs_mul_le (Int.le_of_lt (hx_lt 0 a)) (Int.le_of_lt (hx_lt 0 b))
   have e2 : 2^26 * (2:Int)^(hx 0 a) * (2^26 * 2^(hx 0 b)) = 2^52 * 2^(hx 0 a + hx 0 b) := by
    rw [Int.pow_add]; generalize (2:Int)^(hx 0 a) = x; generalize (2:Int)^(hx 0 b) = y
    rw [Int.mul_assoc, Int.mul_left_comm x, ← Int.mul_assoc]; rfl
   rw [e2] at t2
   by_cases hc : ke g (a * b) ≤ hx 0 a + hx 0 b
   ·exact hc
   ·have := pow_lt_of (show hx 0 a + hx 0 b < ke g (a * b) by omega)
    have := ipw (hx 0 a + hx 0 b)
    omega
 have bnd : ∀ {x y X Y : Int} {i j : Nat}, (2:Int)^i ∣ x → (2:Int)^j ∣ y → (x.natAbs : Int) ≤ 2^26 * 2^i → (y.natAbs : Int) ≤ 2^26 * 2^j → g ≤ i + j → isF g (x * y) := by
  intro x y _ _ i j dx dy bx by' hij
  refine isF_of (i + j) hij ?_ ?_
  ·rw [Int.pow_add]; exact Int.mul_dvd_mul dx dy
  ·have t := abs_mul_le bx by'
   have e2 : 2^26 * (2:Int)^i * (2^26 * 2^j) = 2^52 * 2^(i + j) := by
    rw [Int.pow_add]; generalize (2:Int)^i = x; generalize (2:Int)^j = y
    rw [Int.mul_assoc, Int.mul_left_comm x, ← Int.mul_assoc]; rfl
   rw [e2] at t
   have := ipw (i + j)
   omega
 have la : (al.natAbs : Int) ≤ 2^26 * 2^(ke 0 a) := by have := ca.low; omega
 have lb : (bl.natAbs : Int) ≤ 2^26 * 2^(ke 0 b) := by have := cb.low; omega
 have f1 : isF g (ah * bh) := bnd (X := 0) (Y := 0) ca.top cb.top ca.high cb.high (by omega)
 have f2 : isF g (ah * bl) := bnd (X := 0) (Y := 0) ca.top cb.place ca.high lb (by omega)
 have f3 : isF g (al * bh) := bnd (X := 0) (Y := 0) ca.place cb.top la cb.high (by omega)
 have f4 : isF g (al * bl) := bnd (X := 0) (Y := 0) ca.place cb.place la lb (by omega)
 have y1 : x1 = ah * bh := by rw [h1]; exact rnI_exact f1
 have y2 : x2 = ah * bl := by rw [h2]; exact rnI_exact f2
 have y3 : x3 = al * bh := by rw [h3]; exact rnI_exact f3
 have y4 : x4 = al * bl := by rw [h4]; exact rnI_exact f4
 have mab : a * b = ah * bh + ah * bl + al * b := by
  rw [← sa, ← sb]
  simp only [Int.add_mul, Int.mul_add]
  omega
 have alb : 2^26 * ((al * b).natAbs : Int) ≤ (a * b).natAbs := by
  have : 2^26 * (al * b).natAbs ≤ (a * b).natAbs := by
   rw [Int.natAbs_mul, Int.natAbs_mul, ← Nat.mul_assoc]; exact Nat.mul_le_mul_right _ q26a
  exact_mod_cast this
 have ahbl : 2^25 * ((ah * bl).natAbs : Int) ≤ (a * b).natAbs := by
  have t1 : ah.natAbs ≤ 2 * a.natAbs := by omega
  have : 2^26 * (ah * bl).natAbs ≤ 2 * (a * b).natAbs := by
   rw [Int.natAbs_mul, Int.natAbs_mul, ← Nat.mul_assoc, Nat.mul_comm (2^26), Nat.mul_assoc, ← Nat.mul_assoc 2]
   exact Nat.mul_le_mul t1 q26b
  have : 2^26 * ((ah * bl).natAbs : Int) ≤ 2 * (a * b).natAbs := by exact_mod_cast this
  omega
 have z1 : e1 = ah * bh - p := by
  rw [k1, y1]; apply rnI_exact
  refine isF_of (ke g (a * b)) (ke_ge _ _) (Int.dvd_sub ?_ pK) ?_
  ·exact Int.dvd_trans (dvd_pow_le hKG) (by rw [Int.pow_add]; exact Int.mul_dvd_mul ca.top cb.top)
  ·exact lem1 errK ltK alb ahbl mab
 have z2 : e2 = a * b - p - al * b := by
  have e : ah * bh - p + ah * bl = a * b - p - al * b := by omega
  rw [k2, z1, y2, e]; apply rnI_exact
  have dv : (2:Int)^(hx 0 a + ke 0 b) ∣ ah * bh + ah * bl := by
   rw [Int.pow_add]
   refine Int.dvd_add (Int.mul_dvd_mul ca.top ?_) (Int.mul_dvd_mul ca.top cb.place)
   exact Int.dvd_trans (dvd_pow_le kb.1) cb.top
  by_cases hc : ke g (a * b) ≤ hx 0 a + ke 0 b
  ·refine isF_of (ke g (a * b)) (ke_ge _ _) ?_ ?_
   ·have : a * b - p - al * b = ah * bh + ah * bl - p := by omega
    rw [this]
    exact Int.dvd_sub (Int.dvd_trans (dvd_pow_le hc) dv) pK
   ·exact lem2 errK ltK alb
  ·refine isF_of (hx 0 a + ke 0 b) (by omega) ?_ ?_
   ·have : a * b - p - al * b = ah * bh + ah * bl - p := by omega
    rw [this]
    exact Int.dvd_sub dv (Int.dvd_trans (dvd_pow_le (by omega)) pK)
   ·have t1 : ((al * b).natAbs : Int) * 2 ≤ 2^(hx 0 a) * (2^53 * 2^(ke 0 b)) := by
     have t0 := abs_mul_le (x := 2 * al) (y := b) (X := 2^(hx 0 a)) (Y := 2^53 * 2^(ke 0 b)) (by have := ca.low; omega) (Int.le_of_lt (ke_lt 0 b))
     rw [Int.mul_assoc 2] at t0
     exact lem4 t0
    have e2 : (2:Int)^(hx 0 a) * (2^53 * 2^(ke 0 b)) = 2^53 * 2^(hx 0 a + ke 0 b) := by
     rw [Int.pow_add, Int.mul_left_comm]
    rw [e2] at t1
    have t2 : (2:Int)^(ke 0 a + ke 0 b) ≤ 2^(hx 0 a + ke 0 b) := pow_le_of (by omega)
    exact lem3 eJ t1 t2
 have z3 : e3 = a * b - p - al * bl := by
  have alb' : al * b = al * bh + al * bl := by rw [← sb, Int.mul_add]
  have e : a * b - p - al * b + al * bh = a * b - p - al * bl := by omega
  rw [k3, z2, y3, e]; apply rnI_exact
  refine isF_of (ke 0 a + ke 0 b) hg' (Int.dvd_sub (Int.dvd_sub dJ ?_) ?_) ?_
  ·rw [hp]; exact rn_dvd_of dJ
  ·rw [Int.pow_add]; exact Int.mul_dvd_mul ca.place cb.place
  ·have t := abs_mul_le la lb
   have e2 : 2^26 * (2:Int)^(ke 0 a) * (2^26 * 2^(ke 0 b)) = 2^52 * 2^(ke 0 a + ke 0 b) := by
    rw [Int.pow_add]; generalize (2:Int)^(ke 0 a) = x; generalize (2:Int)^(ke 0 b) = y
    rw [Int.mul_assoc, Int.mul_left_comm x, ← Int.mul_assoc]; rfl
   rw [e2] at t
   exact lem5 eJ t
 have z4 : e = a * b - p := by
  have e : a * b - p - al * bl + al * bl = a * b - p := by omega
  rw [k4, z3, y4, e]; apply rnI_exact
  refine isF_of (ke 0 a + ke 0 b) hg' (Int.dvd_sub dJ (by rw [hp]; exact rn_dvd_of dJ)) (by omega)
 exact ⟨by omega, y1, y2, y3, y4, z1, z2, z3⟩
end Fl
namespace Fl
open Ieee
def sz (w : Nat) : Nat := w % 2^63
def ng (w : Nat) : Bool := w / 2^63 % 2 == 1
def INF : Nat := 2047 * 2^52
def fin (w : Nat) : Prop := sz w < INF
def mg (r : Nat) : Nat := if r < 2^52 then r else (2^52 + r % 2^52) * 2^(r / 2^52 - 1)
def U (w : Nat) : Int := if ng w then -(mg (sz w) : Nat) else (mg (sz w) : Nat)
theorem d_sign : double.signWeight = 2^63 := by decide
theorem d_binade : double.binade = 2^52 := by decide
theorem d_inf : double.infRung = INF := by decide
theorem d_least : double.leastPlace = -1074 := by decide
theorem d_frac : double.fractionBits = 52 := rfl
theorem U_natAbs (w : Nat) : (U w).natAbs = mg (sz w) := by unfold U; split <;> simp
theorem read_fin {w : Nat} (h : fin w) : ∃ m : Nat, ∃ p : Int, double.read w = .number (ng w) m p ∧ -1074 ≤ p ∧ m * 2^(p + 1074).toNat = mg (sz w) := by
 unfold fin at h
 unfold Format.read
 simp only [d_sign, d_binade, d_inf, d_least]
 change ∃ m p, (if sz w < 2^52 then Datum.number (ng w) (sz w) (-1074) else if sz w < INF then _ else _) = _ ∧ _
 unfold mg
 by_cases hs : sz w < 2^52
 ·rw [if_pos hs, if_pos hs]
  exact ⟨_, _, rfl, by omega, by simp⟩
 ·rw [if_neg hs, if_neg hs, if_pos h]
  refine ⟨_, _, rfl, by omega, ?_⟩
  congr 2
  change (-1074 + ((sz w / 2^52 - 1 : Nat) : Int) + 1074).toNat = _
  omega
def rung (g V : Nat) : Nat := (kx g V - g) * 2^52 + rhe V (kx g V)
theorem kx_zero (g : Nat) : kx g 0 = g := by unfold kx; rw [Nat.log2_zero]; omega
theorem rhe_zero (k : Nat) : rhe 0 k = 0 := by
 have h := rhe_exact (n := 0) (k := k) (Nat.dvd_zero _)
 have := pw k
 rcases Nat.mul_eq_zero.1 h with h | h <;> omega
theorem rung_zero (g : Nat) : rung g 0 = 0 := by
 unfold rung; rw [kx_zero, rhe_zero]; omega
theorem rhe_kx_lo {g V : Nat} (h : kx g V ≠ g) : 2^52 ≤ rhe V (kx g V) := rhe_lo (kx_le h)
theorem rhe_kx_hi (g V : Nat) : rhe V (kx g V) ≤ 2^53 := rhe_hi (Nat.le_of_lt (kx_lt g V))
theorem mg_make {k m : Nat} (h1 : m ≤ 2^53) (h2 : k = 0 ∨ 2^52 ≤ m) : mg (k * 2^52 + m) = m * 2^k := by
 unfold mg
 by_cases hm : m < 2^52
 ·have : k = 0 := by omega
  subst this
  rw [if_pos (by omega)]; omega
 ·rw [if_neg (by omega)]
  by_cases he : m = 2^53
  ·subst he
   have e1 : (k * 2^52 + 2^53) % 2^52 = 0 := by omega
   have e2 : (k * 2^52 + 2^53) / 2^52 - 1 = k + 1 := by omega
   rw [e1, e2, Nat.pow_succ]; omega
  ·have e1 : (k * 2^52 + m) % 2^52 = m - 2^52 := by omega
   have e2 : (k * 2^52 + m) / 2^52 - 1 = k := by omega
   rw [e1, e2, show 2^52 + (m - 2^52) = m from by omega]
theorem mg_rung (g V : Nat) : mg (rung g V) * 2^g = rn g V := by
 unfold rung rn
 rw [mg_make (rhe_kx_hi g V) (by by_cases h : kx g V = g; left; omega; right; exact rhe_kx_lo h), Nat.mul_assoc, ← Nat.pow_add]
 congr 2
 have := kx_ge g V; omega
theorem mag_log2 {m d : Nat} (h : m ≠ 0) : (m * 2^d).log2 = m.log2 + d := by
 have := Nat.log2_self_le h
 have h2 : m < 2^(m.log2+1) := Nat.lt_log2_self
 rw [Nat.log2_eq_iff (by have := pw d; exact Nat.mul_ne_zero h (by omega))]
 constructor
 ·rw [Nat.pow_add]; exact Nat.mul_le_mul_right _ this
 ·rw [show m.log2 + d + 1 = (m.log2 + 1) + d from by omega, Nat.pow_add]
  exact Nat.mul_lt_mul_of_pos_right h2 (pw d)
theorem cut_rhe (n k : Nat) : Toward.even.cut false n k = rhe n k ∧ Toward.even.cut true n k = rhe n k := by
 have core : ∀ b, Toward.even.cut b n k = rhe n k := by
  intro b
  unfold Toward.cut rhe
  simp only [Nat.shiftLeft_eq, Nat.one_mul]
  by_cases hk : k ≤ n.log2 + 2
  ·rw [Nat.min_eq_left hk]
   congr 1
   by_cases h1 : 2^k < 2 * (n % 2^k)
   ·simp [h1]
   ·by_cases h2 : 2^k = 2 * (n % 2^k)
    ·by_cases h3 : n / 2^k % 2 = 1
     ·simp [← h2, h3]
     ·simp [← h2, h3]
    ·simp [h1, h2]
  ·rw [Nat.min_eq_right (by omega)]
   have h1 : n < 2^(n.log2 + 1) := Nat.lt_log2_self
   have e2 : 2^(n.log2+2) = 2 * 2^(n.log2+1) := by rw [Nat.pow_succ 2 (n.log2+1)]; omega
   have h2 : 2^(n.log2+2) ≤ 2^k := Nat.pow_le_pow_right (by decide) (by omega)
   have h3 : 2 * 2^(n.log2+2) ≤ 2^k := by
    have := Nat.pow_le_pow_right (n := 2) (by decide) (show n.log2+2+1 ≤ k by omega)
    rw [Nat.pow_succ] at this; omega
   rw [Nat.div_eq_of_lt (by omega : n < 2^(n.log2+2)), Nat.mod_eq_of_lt (by omega : n < 2^(n.log2+2)), Nat.div_eq_of_lt (by omega : n < 2^k), Nat.mod_eq_of_lt (by omega : n < 2^k)]
   rw [if_neg (by omega)]
   have a1 : ¬ 2^(n.log2+2) < 2 * n := by omega
   simp [a1]
 exact ⟨core false, core true⟩
theorem nearest_word {g : Nat} {neg : Bool} {mag : Nat} {place : Int} {V : Nat} (hp : -1074 - (g : Int) ≤ place) (hV : mag * 2^(place + 1074 + g).toNat = V) :
  double.nearest neg mag place = double.word neg (min (rung g V) INF) := by
 unfold Format.nearest
 by_cases h0 : mag = 0
 ·rw [if_pos h0]
  subst h0
  have : V = 0 := by rw [← hV]; omega
  rw [this, rung_zero]
  rfl
 ·rw [if_neg h0]
  simp only [d_least, d_binade, d_inf, d_frac]
  have hl := mag_log2 (d := (place + 1074 + g).toNat) h0
  rw [hV] at hl
  have hk : (max (place + (mag.log2 : Int) - ((52 : Nat) : Int)) (-1074) + 1074 + g).toNat = kx g V ∧ max (place + (mag.log2 : Int) - ((52 : Nat) : Int)) (-1074) = (kx g V : Int) - 1074 - g := by
   unfold kx; omega
  rw [hk.2]
  have e1 : ((kx g V : Int) - 1074 - g - -1074).toNat = kx g V - g := by omega
  rw [e1]
  have hc : Toward.even.cut neg (mag <<< (place - ((kx g V : Int) - 1074 - g)).toNat) ((kx g V : Int) - 1074 - g - place).toNat = rhe V (kx g V) := by
   have core : ∀ n k, Toward.even.cut neg n k = rhe n k := by
    intro n k; cases neg
    ·exact (cut_rhe n k).1
    ·exact (cut_rhe n k).2
   rw [core, Nat.shiftLeft_eq]
   by_cases hle : place ≤ (kx g V : Int) - 1074 - g
   ·have e2 : (place - ((kx g V : Int) - 1074 - g)).toNat = 0 := by omega
    rw [e2, Nat.pow_zero, Nat.mul_one]
    have e3 : kx g V = ((kx g V : Int) - 1074 - g - place).toNat + (place + 1074 + g).toNat := by omega
    rw [← hV] at *
    generalize hq : ((kx g (mag * 2 ^ (place + 1074 + ↑g).toNat) : Int) - 1074 - g - place).toNat = q at *
    rw [e3]
    exact (rhe_scale mag q _).symm
   ·have e2 : ((kx g V : Int) - 1074 - g - place).toNat = 0 := by omega
    rw [e2]
    have e3 : (place + 1074 + g).toNat = (place - ((kx g V : Int) - 1074 - g)).toNat + kx g V := by omega
    generalize (place - ((kx g V : Int) - 1074 - g)).toNat = q at *
    have hV2 : mag * 2^q * 2^(kx g V) = V := by rw [Nat.mul_assoc, ← Nat.pow_add, ← e3]; exact hV
    have d : 2^(kx g V) ∣ V := ⟨mag * 2^q, by rw [Nat.mul_comm]; exact hV2.symm⟩
    have x1 := rhe_exact d
    have x2 : rhe (mag * 2^q) 0 = mag * 2^q := by
     have := rhe_exact (n := mag * 2^q) (k := 0) (by simp)
     simpa using this
    rw [x2]
    have := pw (kx g V)
    exact Nat.eq_of_mul_eq_mul_right this (by omega)
  rw [hc]
  rfl
end Fl
namespace Fl
open Ieee
noncomputable def TE : Nat := Classical.choose (⟨2045, rfl⟩ : ∃ n : Nat, n = 2045)
theorem TE_eq : TE = 2045 := Classical.choose_spec (⟨2045, rfl⟩ : ∃ n : Nat, n = 2045)
noncomputable def top (g : Nat) : Nat := (2^53 - 1) * 2^(TE + g)
theorem rung_fin {g V : Nat} (h : V ≤ top g) : rung g V < INF := by
 unfold top at h
 have hTE := TE_eq
 have hk : kx g V ≤ TE + g := by
  by_cases hc : kx g V ≤ TE + g
  ·exact hc
  ·have h1 := kx_le (g := g) (n := V) (by omega)
   have h2 : 2^(TE + g) * 2 ≤ 2^(kx g V) := by
    rw [← Nat.pow_succ]; exact Nat.pow_le_pow_right (by decide) (by omega)
   have := pw (TE + g)
   generalize 2^(TE + g) = P at *
   generalize 2^(kx g V) = Q at *
   omega
 have h3 := rhe_kx_hi g V
 unfold rung INF
 by_cases he : kx g V = TE + g
 ·have h4 : rhe V (kx g V) ≤ 2^53 - 1 := rhe_hi (by rw [he]; exact h)
  omega
 ·omega
theorem word_sz {r : Nat} (neg : Bool) (h : r < INF) : sz (double.word neg r) = r ∧ ng (double.word neg r) = neg ∧ double.word neg r < 2^64 := by
 unfold INF at h
 unfold Format.word sz ng
 rw [d_sign]
 cases neg
 ·rw [if_neg (by simp)]
  refine ⟨by omega, ?_, by omega⟩
  have : r / 2^63 % 2 = 0 := by omega
  rw [this]; rfl
 ·rw [if_pos rfl]
  refine ⟨by omega, ?_, by omega⟩
  have : (2^63 + r) / 2^63 % 2 = 1 := by omega
  rw [this]; rfl
theorem rn_zero (g : Nat) : rn g 0 = 0 := by unfold rn; rw [rhe_zero]; omega
theorem write_fin {g : Nat} {neg : Bool} {mag : Nat} {place : Int} {v : Int} (hp : -1074 - (g : Int) ≤ place) (hV : mag * 2^(place + 1074 + g).toNat = v.natAbs) (hs : v ≠ 0 → neg = decide (v < 0)) (hm : v.natAbs ≤ top g) :
  ∃ r, double.write (.number neg mag place) = r ∧ r < 2^64 ∧ fin r ∧ U r * 2^g = rnI g v ∧ ng r = neg ∧ sz r = rung g v.natAbs := by
 have hr := rung_fin hm
 refine ⟨_, rfl, ?_⟩
 have e : double.write (.number neg mag place) = double.word neg (rung g v.natAbs) := by
  show double.nearest neg mag place = _
  rw [nearest_word hp hV, Nat.min_eq_left (Nat.le_of_lt hr)]
 rw [e]
 obtain ⟨w1, w2, w3⟩ := word_sz neg hr
 refine ⟨w3, by unfold fin; rw [w1]; exact hr, ?_, w2, w1⟩
 unfold U
 rw [w1, w2]
 have hmr := mg_rung g v.natAbs
 have hmr' : (mg (rung g v.natAbs) : Int) * 2^g = (rn g v.natAbs : Nat) := by rw [← hmr]; push_cast; rfl
 unfold rnI
 by_cases h0 : v = 0
 ·subst h0
  have z : mg (rung g (0 : Int).natAbs) = 0 := by rw [Int.natAbs_zero, rung_zero]; rfl
  rw [z, Int.natAbs_zero, rn_zero]
  cases neg <;> simp
 ·rw [hs h0]
  by_cases hv : v < 0
  ·rw [if_pos hv, if_pos (by simpa using hv), Int.neg_mul, hmr']
  ·rw [if_neg hv, if_neg (by simpa using hv), hmr']
theorem signed_mul (s : Bool) (m k d : Nat) : signed s m k * 2^d = if s then -((m * 2^(k + d) : Nat) : Int) else ((m * 2^(k + d) : Nat) : Int) := by
 unfold signed
 rw [Nat.shiftLeft_eq, Nat.pow_add, ← Nat.mul_assoc]
 cases s
 ·rw [if_neg (by simp), if_neg (by simp)]; push_cast; rfl
 ·rw [if_pos rfl, if_pos rfl, Int.neg_mul]; push_cast; rfl
theorem U_signed {w m : Nat} {p b : Int} (hb : -1074 ≤ b) (hbp : b ≤ p) (h : m * 2^(p + 1074).toNat = mg (sz w)) : signed (ng w) m (p - b).toNat * 2^(b + 1074).toNat = U w := by
 rw [signed_mul, ← Int.toNat_add (by omega) (by omega)]
 have : p - b + (b + 1074) = p + 1074 := by omega
 rw [this, h]
 rfl
theorem pos_of_mul {a : Int} {k : Nat} : (a * 2^k < 0 ↔ a < 0) ∧ (a * 2^k = 0 ↔ a = 0) := by
 have hp := ipw k
 constructor
 ·constructor
  ·intro h
   by_cases hc : a < 0
   ·exact hc
   ·have := Int.mul_nonneg (show 0 ≤ a by omega) (Int.le_of_lt hp); omega
  ·intro h; exact Int.mul_neg_of_neg_of_pos h hp
 ·constructor
  ·intro h; rcases Int.mul_eq_zero.1 h with h | h <;> omega
  ·intro h; rw [h]; simp
structure Is (g : Nat) (v : Int) (r : Nat) : Prop where
 lt : r < 2^64
 fin : fin r
 val : U r * 2^g = rnI g v
 sign : v ≠ 0 → ng r = decide (v < 0)
theorem sum_core {x y : Nat} {s : Bool} {m n : Nat} {i j : Int} {v : Int} (hi : -1074 ≤ i) (hj : -1074 ≤ j) (t : Bool)
  (hv : signed s m (i - min i j).toNat * 2^(min i j + 1074).toNat + signed t n (j - min i j).toNat * 2^(min i j + 1074).toNat = v) (hm : v.natAbs ≤ top 0)
  (hx : double.read x = .number s m i) (hy : double.read y = .number t n j) :
  ∃ r, ((double.read x).sum (double.read y)).map double.write = some r ∧ Is 0 v r := by
 rw [hx, hy]
 unfold Datum.sum
 simp only [Option.map_some]
 rw [← Int.add_mul] at hv
 generalize signed s m (i - min i j).toNat + signed t n (j - min i j).toNat = total at *
 have hp := pos_of_mul (a := total) (k := (min i j + 1074).toNat)
 rw [hv] at hp
 have := write_fin (g := 0) (neg := if total = 0 then s && t else decide (total < 0)) (mag := total.natAbs) (place := min i j) (v := v) (by omega)
  (by rw [← hv, Int.natAbs_mul, Int.natAbs_pow]; congr 2; omega) (by
   intro h0
   rw [if_neg (by intro h; exact h0 (hp.2.2 h))]
   exact decide_eq_decide.2 hp.1.symm) hm
 obtain ⟨r, h1, h2, h3, h4, h5, _⟩ := this
 refine ⟨r, congrArg some h1, h2, h3, h4, ?_⟩
 intro h0
 rw [h5, if_neg (by intro h; exact h0 (hp.2.2 h))]
 exact decide_eq_decide.2 hp.1.symm
theorem add_fin {x y : Nat} (hx : fin x) (hy : fin y) (hm : (U x + U y).natAbs ≤ top 0) : ∃ r, double.add x y = some r ∧ Is 0 (U x + U y) r := by
 obtain ⟨m, i, hx1, hi, hx2⟩ := read_fin hx
 obtain ⟨n, j, hy1, hj, hy2⟩ := read_fin hy
 exact sum_core hi hj (ng y) (by rw [U_signed (by omega) (by omega) hx2, U_signed (by omega) (by omega) hy2]) hm hx1 hy1
theorem sub_fin {x y : Nat} (hx : fin x) (hy : fin y) (hm : (U x - U y).natAbs ≤ top 0) : ∃ r, double.sub x y = some r ∧ Is 0 (U x - U y) r := by
 obtain ⟨m, i, hx1, hi, hx2⟩ := read_fin hx
 obtain ⟨n, j, hy1, hj, hy2⟩ := read_fin hy
 have hneg : signed (!ng y) n (j - min i j).toNat * 2^(min i j + 1074).toNat = - U y := by
  rw [← U_signed (b := min i j) (by omega) (by omega) hy2, ← Int.neg_mul]
  congr 1
  unfold signed
  cases ng y <;> simp
 unfold Format.sub
 rw [hx1, hy1]
 show ∃ r, ((Datum.number (ng x) m i).sum (Datum.number (!ng y) n j)).map double.write = some r ∧ _
 unfold Datum.sum
 simp only [Option.map_some]
 have hv : signed (ng x) m (i - min i j).toNat * 2^(min i j + 1074).toNat + signed (!ng y) n (j - min i j).toNat * 2^(min i j + 1074).toNat = U x - U y := by
  rw [U_signed (by omega) (by omega) hx2, hneg]; omega
 rw [← Int.add_mul] at hv
 generalize signed (ng x) m (i - min i j).toNat + signed (!ng y) n (j - min i j).toNat = total at *
 have hp := pos_of_mul (a := total) (k := (min i j + 1074).toNat)
 rw [hv] at hp
 have := write_fin (g := 0) (neg := if total = 0 then ng x && !ng y else decide (total < 0)) (mag := total.natAbs) (place := min i j) (v := U x - U y) (by omega)
  (by rw [← hv, Int.natAbs_mul, Int.natAbs_pow]; congr 2; omega) (by
   intro h0
   rw [if_neg (by intro h; exact h0 (hp.2.2 h))]
   exact decide_eq_decide.2 hp.1.symm) hm
 obtain ⟨r, h1, h2, h3, h4, h5, _⟩ := this
 refine ⟨r, congrArg some h1, h2, h3, h4, ?_⟩
 intro h0
 rw [h5, if_neg (by intro h; exact h0 (hp.2.2 h))]
 exact decide_eq_decide.2 hp.1.symm
theorem U_sign_mul (x y : Nat) (h : U x * U y ≠ 0) : (ng x ^^ ng y) = decide (U x * U y < 0) := by
 unfold U at *
 have h0 : mg (sz x) ≠ 0 := by intro h0; rw [h0] at h; simp at h
 have h1 : mg (sz y) ≠ 0 := by intro h0; rw [h0] at h; simp at h
 have hp : (0:Int) < (mg (sz x) : Nat) * (mg (sz y) : Nat) := Int.mul_pos (by omega) (by omega)
 cases ng x <;> cases ng y <;> simp only [Bool.false_eq_true, if_false, if_true, Bool.xor_false, Bool.xor_true, Bool.not_true, Bool.not_false, Int.neg_mul, Int.mul_neg, Int.neg_neg] <;> symm <;> simp only [decide_eq_true_eq, decide_eq_false_iff_not] <;> omega
theorem mul_fin {x y : Nat} (hx : fin x) (hy : fin y) (hm : (U x * U y).natAbs ≤ top 1074) : ∃ r, double.mul x y = some r ∧ Is 1074 (U x * U y) r := by
 obtain ⟨m, i, hx1, hi, hx2⟩ := read_fin hx
 obtain ⟨n, j, hy1, hj, hy2⟩ := read_fin hy
 unfold Format.mul
 rw [hx1, hy1]
 unfold Datum.product
 simp only [Option.map_some]
 have e : m * n * 2^(i + j + 1074 + (1074 : Nat)).toNat = (U x * U y).natAbs := by
  rw [Int.natAbs_mul, U_natAbs, U_natAbs, ← hx2, ← hy2]
  have : (i + j + 1074 + (1074 : Nat)).toNat = (i + 1074).toNat + (j + 1074).toNat := by omega
  rw [this, Nat.pow_add, Nat.mul_assoc, Nat.mul_assoc, Nat.mul_left_comm n]
 have := write_fin (g := 1074) (neg := ng x ^^ ng y) (mag := m * n) (place := i + j) (v := U x * U y) (by omega) e (fun h => U_sign_mul x y h) hm
 obtain ⟨r, h1, h2, h3, h4, h5, _⟩ := this
 exact ⟨r, congrArg some h1, h2, h3, h4, fun h0 => by rw [h5]; exact U_sign_mul x y h0⟩
theorem mg_lt {r s : Nat} (h : r < s) : mg r < mg s := by
 unfold mg
 by_cases hs : s < 2^52
 ·rw [if_pos hs, if_pos (by omega)]; exact h
 ·rw [if_neg hs]
  by_cases hr : r < 2^52
  ·rw [if_pos hr]
   have := pw (s / 2^52 - 1)
   have : 2^52 * 1 ≤ (2^52 + s % 2^52) * 2^(s/2^52 - 1) := Nat.mul_le_mul (by omega) (by omega)
   omega
  ·rw [if_neg hr]
   by_cases hq : r / 2^52 = s / 2^52
   ·rw [hq]
    exact Nat.mul_lt_mul_of_pos_right (by omega) (pw _)
   ·have h1 : (2^52 + r % 2^52) * 2^(r/2^52 - 1) < 2^53 * 2^(r/2^52 - 1) := Nat.mul_lt_mul_of_pos_right (by omega) (pw _)
    have h2 : 2^53 * 2^(r/2^52 - 1) ≤ 2^52 * 2^(s/2^52 - 1) := by
     rw [← Nat.pow_add, ← Nat.pow_add]; exact Nat.pow_le_pow_right (by decide) (by omega)
    have h3 : 2^52 * 2^(s/2^52-1) ≤ (2^52 + s % 2^52) * 2^(s/2^52 - 1) := Nat.mul_le_mul_right _ (by omega)
    omega
theorem mg_le {r s : Nat} (h : r ≤ s) : mg r ≤ mg s := by
 by_cases e : r = s
 ·rw [e]; exact Nat.le_refl _
 ·exact Nat.le_of_lt (mg_lt (by omega))
theorem mg_inj {r s : Nat} (h : mg r = mg s) : r = s := by
 by_cases h1 : r < s
 ·have := mg_lt h1; omega
 ·by_cases h2 : s < r
  ·have := mg_lt h2; omega
  ·omega
theorem mg_le_iff {r s : Nat} : mg r ≤ mg s ↔ r ≤ s := by
 constructor
 ·intro h
  by_cases hc : r ≤ s
  ·exact hc
  ·have := mg_lt (show s < r by omega); omega
 ·exact mg_le
theorem mg_isF (r : Nat) : isF 0 (mg r : Nat) := by
 unfold mg
 by_cases hr : r < 2^52
 ·rw [if_pos hr]
  refine ⟨0, Nat.le_refl _, ?_, ?_⟩
  ·rw [Int.pow_zero]; exact Int.one_dvd _
  ·rw [Int.natAbs_natCast, Nat.pow_zero]; omega
 ·rw [if_neg hr]
  refine ⟨r / 2^52 - 1, Nat.zero_le _, ?_, ?_⟩
  ·rw [natAbs_dvd', Int.natAbs_natCast]; exact Nat.dvd_mul_left _ _
  ·rw [Int.natAbs_natCast]
   exact Nat.mul_le_mul_right _ (by omega)
theorem U_isF (w : Nat) : isF 0 (U w) := by
 unfold U
 split
 ·exact isF_neg (mg_isF _)
 ·exact mg_isF _
theorem mg_zero {r : Nat} : mg r = 0 ↔ r = 0 := by
 constructor
 ·intro h
  by_cases hr : r = 0
  ·exact hr
  ·have := mg_lt (show 0 < r by omega); omega
 ·intro h; subst h; rfl
theorem ng_sz {w : Nat} (h : w < 2^64) : w = (if ng w then 2^63 else 0) + sz w := by
 unfold ng sz
 by_cases hn : w / 2^63 % 2 = 1
 ·rw [if_pos (by simpa using hn)]; omega
 ·rw [if_neg (by simpa using hn)]; omega
end Fl
