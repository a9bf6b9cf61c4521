/- What Split and TwoProd answer, in whole numbers of units: a cut in two, the rounded product, and just what is missing. Conditions: the document's bounds on the numbers. -/
import Derived.Test.YtbgmadijifefiaaKEftHalvesEftLaw
namespace Go.Proofs.Ytbgmadijifefiaa.EftLaw
open Go.Proofs.Ytbgmadijifefiaa.FW Go.Proofs.Ytbgmadijifefiaa.Eft Fl
theorem top_g (g : Nat) : top g = (2^53 - 1) * T0 * 2^g := by
  unfold top T0; rw [Nat.pow_add, Nat.mul_assoc]
theorem le_top {v : Int} {g m : Nat} (h : v.natAbs ≤ m * T0 * 2^g) (hm : m ≤ 2^53 - 1) : v.natAbs ≤ top g := by
  rw [top_g]
  exact Nat.le_trans h (Nat.mul_le_mul_right _ (Nat.mul_le_mul_right _ hm))
theorem le_top0 {v : Int} {m : Nat} (h : v.natAbs ≤ m * T0) (hm : m ≤ 2^53 - 1) : v.natAbs ≤ top 0 := by
  rw [top_T]; exact Nat.le_trans h (Nat.mul_le_mul_right _ hm)
theorem rn_le_T {v : Int} {m : Nat} (h : v.natAbs ≤ m * T0) (hm : m ≤ 2^53) : (rnI 0 v).natAbs ≤ m * T0 := rn_bound (isF_T m hm) h
theorem castQ (q : Nat) : ((134217729 * (2^25 * q) : Nat) : Int) = 134217729 * (2^25 * (q : Int)) := by omega
theorem castK (k : Nat) : ((134217729 * (2^25 * 2^k) : Nat) : Int) = 134217729 * (2^25 * 2^k) := by
  have e5 : (2 : Int)^k = ((2^k : Nat) : Int) := by rw [Int.natCast_pow]; rfl
  rw [e5]; exact castQ _
theorem U_K (g : Nat) (hg : g = 1074) : U 4728779608772575232 = 134217729 * 2^g := by
  obtain ⟨k, hk⟩ : ∃ k, k = 1049 := ⟨_, rfl⟩
  have h1 := mg_make (k := k) (m := 2^52 + 2^25) (by decide) (Or.inr (by decide))
  have e1 : sz 4728779608772575232 = k * 2^52 + (2^52 + 2^25) := by unfold sz; omega
  have e2 : ng 4728779608772575232 = false := by decide
  unfold U
  rw [e2, e1, h1]
  have e3 : g = 25 + k := by omega
  rw [e3]
  rw [if_neg (by decide), Int.pow_add]
  have e4 : (2^52 + 2^25) * 2^k = 134217729 * (2^25 * 2^k) := by rw [← Nat.mul_assoc]
  rw [e4]
  exact castK k
theorem atMost_995 {a : Nat} (h : sz a ≤ 2018 * 2^52) : fin a ∧ (U a).natAbs ≤ 2^24 * T0 := by
  refine ⟨by unfold fin INF; omega, ?_⟩
  rw [U_natAbs]
  have h1 := mg_le h
  obtain ⟨k, hk⟩ : ∃ k, k = 2017 := ⟨_, rfl⟩
  have h2 := mg_top k
  rw [show (k + 1) * 2^52 = 2018 * 2^52 by omega] at h2
  have h3 : T0 = 2^28 * 2^k := by
    have e : TE = 28 + k := by have := TE_eq; omega
    unfold T0; rw [e, Nat.pow_add]
  rw [h2] at h1
  rw [h3]
  omega
theorem valg {g : Nat} {v : Int} {r : Nat} (h : Is g v r) : U r * 2^g = rnI g v := h.val
theorem split_c {g : Nat} {x c : Int} (h : c * 2^g = rnI g (134217729 * 2^g * x)) : c = rnI 0 (134217729 * x) := by
  have e : 134217729 * 2^g * x = 134217729 * x * 2^g := by rw [Int.mul_assoc, Int.mul_comm (2^g) x, ← Int.mul_assoc]
  rw [e] at h
  have s := rnI_scale 0 (134217729 * x) g
  rw [Nat.zero_add] at s
  rw [s] at h
  exact Int.eq_of_mul_eq_mul_right (by have := ipw g; omega) h
theorem split_law {a h l : Nat} (hR : SplitR a h l) (ha : sz a ≤ 2018 * 2^52) :
    fin a ∧ fin h ∧ fin l ∧ (U a).natAbs ≤ 2^24 * T0 ∧ Cut 0 (U a) (U h) (U l) := by
  obtain ⟨c, d, h1, h2, h3, h4⟩ := hR
  obtain ⟨fa, ba⟩ := atMost_995 ha
  have fK : fin 4728779608772575232 := by unfold fin INF sz; omega
  obtain ⟨g, hg⟩ : ∃ g, g = 1074 := ⟨_, rfl⟩
  have hK := U_K g hg
  have hm : (U 4728779608772575232 * U a).natAbs ≤ top g := by
    refine le_top (m := 134217729 * 2^24) ?_ (by decide)
    rw [hK, Int.natAbs_mul, Int.natAbs_mul, Int.natAbs_pow]
    have e : (134217729 : Int).natAbs * (2 : Int).natAbs ^ g * (U a).natAbs = 134217729 * (U a).natAbs * 2^g := by
      rw [Nat.mul_assoc, Nat.mul_comm _ (U a).natAbs, ← Nat.mul_assoc]; rfl
    rw [e]
    refine Nat.mul_le_mul_right _ ?_
    rw [Nat.mul_assoc]
    exact Nat.mul_le_mul_left _ ba
  have i1 := fop_mul h1 fK fa (by rw [← hg]; exact hm)
  have v1 := valg i1
  rw [← hg, hK] at v1
  have u1 := split_c v1
  have hT := T0_pos
  have b1 := rn_le_T (v := 134217729 * U a) (m := 134217729 * 2^24) (by rw [Int.natAbs_mul, Nat.mul_assoc]; exact Nat.mul_le_mul_left _ ba) (by decide)
  rw [← u1] at b1
  have m2 : (U c - U a).natAbs ≤ (134217729 * 2^24 + 2^24) * T0 := by omega
  have i2 := fop_sub h2 i1.fin fa (le_top0 m2 (by decide))
  have b2 := rn_le_T m2 (by decide)
  rw [← val0 i2] at b2
  have m3 : (U c - U d).natAbs ≤ (2 * 134217729 * 2^24 + 2^24) * T0 := by omega
  have i3 := fop_sub h3 i1.fin i2.fin (le_top0 m3 (by decide))
  have b3 := rn_le_T m3 (by decide)
  rw [← val0 i3] at b3
  have m4 : (U a - U h).natAbs ≤ (2 * 134217729 * 2^24 + 2 * 2^24) * T0 := by omega
  have i4 := fop_sub h4 fa i3.fin (le_top0 m4 (by decide))
  exact ⟨fa, i3.fin, i4.fin, ba, split_all (U_isF a) u1 (val0 i2) (val0 i3) (val0 i4)⟩
end Go.Proofs.Ytbgmadijifefiaa.EftLaw
