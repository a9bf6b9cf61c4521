/- What Split and TwoProd answer, in whole numbers of units: a cut in two, the rounded product, and just what is missing. Conditions: the document's bounds on the numbers. What TwoProd answers: the rounded product, and just what is missing; and how little that is. Conditions: the document's bounds on the numbers. -/
import Derived.Test.YtbgmadijifefiaaKAcceptMustEftLaw
section
namespace Go.Proofs.Ytbgmadijifefiaa.EftLaw
open Go.Proofs.Ytbgmadijifefiaa.FW Go.Proofs.Ytbgmadijifefiaa.Eft Fl
theorem top_g (g : Nat) : top g = (2^53 - 1) * T0 * 2^g := by
  unfold top T0; rw [Nat.pow_add, Nat.mul_assoc]
theorem le_top {v : Int} {g m : Nat} (h : v.natAbs ≤ m * T0 * 2^g) (hm : m ≤ 2^53 - 1) : v.natAbs ≤ top g := by
  rw [top_g]
  exact Nat.le_trans h (Nat.mul_le_mul_right _ (Nat.mul_le_mul_right _ hm))
theorem le_top0 {v : Int} {m : Nat} (h : v.natAbs ≤ m * T0) (hm : m ≤ 2^53 - 1) : v.natAbs ≤ top 0 := by
  rw [top_T]; exact Nat.le_trans h (Nat.mul_le_mul_right _ hm)
theorem rn_le_T {v : Int} {m : Nat} (h : v.natAbs ≤ m * T0) (hm : m ≤ 2^53) : (rnI 0 v).natAbs ≤ m * T0 := rn_bound (isF_T m hm) h
theorem atMost_995 {a : Nat} (h : sz a ≤ 2018 * 2^52) : fin a ∧ (U a).natAbs ≤ 2^24 * T0 := by
  refine ⟨by unfold fin INF; omega, ?_⟩
  rw [U_natAbs]
  have h1 := mg_le h
  obtain ⟨k, hk⟩ : ∃ k, k = 2017 := ⟨_, rfl⟩
  have h2 := mg_top k
  rw [show (k + 1) * 2^52 = 2018 * 2^52 by omega] at h2
  have h3 : T0 = 2^28 * 2^k := by
    have e : TE = 28 + k := by have := TE_eq; omega
    unfold T0; rw [e, Nat.pow_add]
  rw [h2] at h1
  rw [h3]
  omega
end Go.Proofs.Ytbgmadijifefiaa.EftLaw
end
section
namespace Go.Proofs.Ytbgmadijifefiaa.EftLaw
open Go.Proofs.Ytbgmadijifefiaa.FW Go.Proofs.Ytbgmadijifefiaa.Eft Fl
theorem isF_Tg (g m : Nat) (hm : m ≤ 2^53) : isF g ((m * T0 * 2^g : Nat) : Int) := by
  refine ⟨TE + g, Nat.le_add_left _ _, ?_, ?_⟩
  · rw [natAbs_dvd', Int.natAbs_natCast, Nat.pow_add, Nat.mul_assoc]; exact Nat.dvd_mul_left _ _
  · rw [Int.natAbs_natCast, Nat.pow_add, Nat.mul_assoc]; exact Nat.mul_le_mul_right _ hm
theorem mul_in {g x y r m : Nat} (hg : g = 1074) (h : FOp .mul x y r) (fx : fin x) (fy : fin y) (hm : (U x * U y).natAbs ≤ m * T0 * 2^g) (hm2 : m ≤ 2^53 - 1) :
    Is g (U x * U y) r ∧ (U r).natAbs ≤ m * T0 := by
  have i : Is g (U x * U y) r := by rw [hg]; exact fop_mul h fx fy (by rw [← hg]; exact le_top hm hm2)
  refine ⟨i, ?_⟩
  have b := rn_bound (isF_Tg g m (by omega)) hm
  rw [← i.val, Int.natAbs_mul, Int.natAbs_pow] at b
  exact Nat.le_of_mul_le_mul_right b (Nat.two_pow_pos g)
end Go.Proofs.Ytbgmadijifefiaa.EftLaw
end
