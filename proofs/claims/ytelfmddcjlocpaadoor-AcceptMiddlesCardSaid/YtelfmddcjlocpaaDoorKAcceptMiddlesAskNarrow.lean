/- What Accept answers at a narrower margin. Plain Lean. Conditions: as each lemma says. -/
import Derived.Test.YtelfmddcjlocpaaDoorKAcceptMiddlesAskLaw
namespace Go.Proofs.YtelfmddcjlocpaaDoor.AccW
open Go.RowKit Go.Proofs.YtelfmddcjlocpaaDoor.FW Go.Proofs.YtelfmddcjlocpaaDoor.Eft Go.Proofs.YtelfmddcjlocpaaDoor.EftLaw Fl
theorem rn_mono {g : Nat} {v w : Int} (h : v ≤ w) : rnI g v ≤ rnI g w := by
 by_cases c : rnI g v ≤ rnI g w
 ·exact c
 ·have n1 := rnI_near (g := g) (v := v) (rnI_isF g w)
  have n2 := rnI_near (g := g) (v := w) (rnI_isF g v)
  have e : v = w := by omega
  rw [e]; exact Int.le_refl _
theorem margin_val {g x : Nat} (hg : g = 1074) {i : Int} {L m : Nat} (c1 : -100 ≤ i) (c2 : i ≤ -56) (h1 : 553942754166571008 ≤ sz x) (h2 : sz x ≤ 8660422083433463808)
  (a1 : FOp .mul 4607182418800017408 (E15 i) L) (a2 : FOp .mul (sz x) L m) : ∃ n : Nat, (n : Int) = i + 1073 ∧ fin m ∧ 2^55 * (U m).natAbs ≤ (U x).natAbs ∧ U m * 2^g = rnI g (U (sz x) * ((3 * 2^n : Nat) : Int)) := by
 obtain ⟨n, hn⟩ : ∃ n : Nat, (n : Int) = i + 1073 := ⟨(i + 1073).toNat, by omega⟩
 obtain ⟨uE, fE⟩ := U_E15 i c1 c2 n hn
 have uO := U_one g hg
 have fO : fin 4607182418800017408 := by unfold fin; decide
 have hTE := TE_eq
 have h3n : 3 * 2^n ≤ 2^(n + 2) := by rw [Nat.pow_add]; omega
 have hnT : 2^(n + 2) ≤ T0 := Nat.pow_le_pow_right (by decide) (by omega)
 obtain ⟨iL, _⟩ := mul_in (m := 1) hg a1 fO fE (by
  rw [uO, uE, Int.natAbs_mul, Int.natAbs_pow, Int.natAbs_natCast, Nat.one_mul, Nat.mul_comm T0]
  exact Nat.mul_le_mul_left _ (Nat.le_trans h3n hnT)) (by decide)
 have uL : U L = U (E15 i) := by
  have v := iL.val
  rw [uO, Int.mul_comm (2^g) (U (E15 i))] at v
  have s := rnI_scale 0 (U (E15 i)) g
  rw [Nat.zero_add] at s
  rw [s, rnI_exact (U_isF _)] at v
  exact Int.eq_of_mul_eq_mul_right (by have := ipw g; omega) v
 obtain ⟨fx, bx⟩ := atMost_995 (a := x) (by omega)
 have hxs : sz x < 2^63 := Nat.mod_lt _ (by decide)
 have ux : (U (sz x)).natAbs = (U x).natAbs := by rw [U_natAbs, U_natAbs, show sz (sz x) = sz x from Nat.mod_eq_of_lt hxs]
 have fsx : fin (sz x) := by unfold fin at *; rw [show sz (sz x) = sz x from Nat.mod_eq_of_lt hxs]; exact fx
 obtain ⟨p, hp⟩ : ∃ p, g = p + 55 := ⟨g - 55, by omega⟩
 have hg2 : 2^g = 2^55 * 2^p := by rw [hp, Nat.pow_add, Nat.mul_comm]
 have hnp : 3 * 2^n ≤ 2^p := Nat.le_trans h3n (Nat.pow_le_pow_right (by decide) (by omega))
 have hX : (U (sz x) * U L).natAbs ≤ (U x).natAbs * 2^p := by
  rw [Int.natAbs_mul, ux, uL, uE, Int.natAbs_natCast]
  exact Nat.mul_le_mul_left _ hnp
 have hX2 : (U x).natAbs * 2^p ≤ 1 * T0 * 2^g := by
  rw [hg2, Nat.one_mul, ← Nat.mul_assoc]
  refine Nat.mul_le_mul_right _ (Nat.le_trans bx ?_)
  rw [Nat.mul_comm]
  exact Nat.mul_le_mul_left _ (by decide)
 obtain ⟨im, _⟩ := mul_in (m := 1) hg a2 fsx iL.fin (Nat.le_trans hX hX2) (by decide)
 have hbig := big900 h1
 have hkb := ke_big (v := U x) (Nat.le_trans (by decide) hbig)
 have hkb2 : 55 ≤ ke 0 (U x) := by
  by_cases c : 55 ≤ ke 0 (U x)
  ·exact c
  ·have h1 := ke_lt 0 (U x)
   have h2 := pow_le_of (show ke 0 (U x) ≤ 55 by omega)
   generalize (2:Int)^(ke 0 (U x)) = Q at *
   omega
 have hF : isF g (((U x).natAbs * 2^p : Nat) : Int) := by
  refine ⟨ke 0 (U x) + p, by omega, ?_, ?_⟩
  ·rw [natAbs_dvd', Int.natAbs_natCast, Nat.pow_add]
   exact Nat.mul_dvd_mul_right (natAbs_dvd'.1 (isF_dvd (U_isF x))) _
  ·rw [Int.natAbs_natCast, Nat.pow_add, ← Nat.mul_assoc]
   refine Nat.mul_le_mul_right _ ?_
   have := ke_lt 0 (U x)
   exact Nat.le_of_lt (by exact_mod_cast this)
 have hb := rn_bound hF hX
 rw [← im.val, Int.natAbs_mul, Int.natAbs_pow] at hb
 refine ⟨n, hn, im.fin, ?_, by rw [← uE, ← uL]; exact im.val⟩
 have e2 : (U m).natAbs * (2 : Int).natAbs ^ g = 2^55 * (U m).natAbs * 2^p := by
  show (U m).natAbs * 2^g = _
  rw [hg2, Nat.mul_comm (2^55) (U m).natAbs, Nat.mul_assoc]
 rw [e2] at hb
 exact Nat.le_of_mul_le_mul_right hb (Nat.two_pow_pos p)
theorem U_sz_pos (x : Nat) : 0 ≤ U (sz x) := by
 rw [U_pos (s := sz x) (Nat.mod_lt _ (by decide))]; exact Int.natCast_nonneg _
theorem margin_le {g x n n' : Nat} {m m' : Int} (h : n' ≤ n) (hm : m * 2^g = rnI g (U (sz x) * ((3 * 2^n : Nat) : Int))) (hm' : m' * 2^g = rnI g (U (sz x) * ((3 * 2^n' : Nat) : Int))) : 0 ≤ m' ∧ m' ≤ m := by
 have hp := ipw g
 have hx := U_sz_pos x
 constructor
 ·have h1 : rnI g 0 ≤ rnI g (U (sz x) * ((3 * 2^n' : Nat) : Int)) := rn_mono (Int.mul_nonneg hx (Int.natCast_nonneg _))
  rw [rnI_exact (isF_zero g), ← hm'] at h1
  by_cases c : 0 ≤ m'
  ·exact c
  ·have := Int.mul_neg_of_neg_of_pos (show m' < 0 by omega) hp; omega
 ·have h1 : rnI g (U (sz x) * ((3 * 2^n' : Nat) : Int)) ≤ rnI g (U (sz x) * ((3 * 2^n : Nat) : Int)) :=
   rn_mono (Int.mul_le_mul_of_nonneg_left (Int.ofNat_le.2 (Nat.mul_le_mul_left _ (Nat.pow_le_pow_right (by decide) h))) hx)
  rw [← hm, ← hm'] at h1
  exact Int.le_of_mul_le_mul_right h1 hp
theorem small_of {x y : Int} (h : rnI 0 (x + y) = x) : (2^53 - 1) * y.natAbs ≤ x.natAbs := by
 have he := rnI_err 0 (x + y)
 rw [h] at he
 by_cases hk : ke 0 (x + y) = 0
 ·rw [hk, Int.pow_zero] at he
  have : y = 0 := by omega
  rw [this]; simp
 ·have hl := ke_le hk
  generalize (2:Int)^(ke 0 (x + y)) = Q at *
  omega
end Go.Proofs.YtelfmddcjlocpaaDoor.AccW
