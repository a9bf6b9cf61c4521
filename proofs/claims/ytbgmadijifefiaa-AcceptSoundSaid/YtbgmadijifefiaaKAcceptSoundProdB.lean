/- What TwoProd answers: the rounded product, and just what is missing; and how little that is. Conditions: the document's bounds on the numbers. -/
import Derived.Test.YtbgmadijifefiaaKAcceptSoundProdLaw
namespace Go.Proofs.Ytbgmadijifefiaa.EftLaw
open Go.Proofs.Ytbgmadijifefiaa.FW Go.Proofs.Ytbgmadijifefiaa.Eft Fl
theorem isF_Tg (g m : Nat) (hm : m ≤ 2^53) : isF g ((m * T0 * 2^g : Nat) : Int) := by
  refine ⟨TE + g, Nat.le_add_left _ _, ?_, ?_⟩
  · rw [natAbs_dvd', Int.natAbs_natCast, Nat.pow_add, Nat.mul_assoc]; exact Nat.dvd_mul_left _ _
  · rw [Int.natAbs_natCast, Nat.pow_add, Nat.mul_assoc]; exact Nat.mul_le_mul_right _ hm
theorem mul_in {g x y r m : Nat} (hg : g = 1074) (h : FOp .mul x y r) (fx : fin x) (fy : fin y) (hm : (U x * U y).natAbs ≤ m * T0 * 2^g) (hm2 : m ≤ 2^53 - 1) :
    Is g (U x * U y) r ∧ (U r).natAbs ≤ m * T0 := by
  have i : Is g (U x * U y) r := by rw [hg]; exact fop_mul h fx fy (by rw [← hg]; exact le_top hm hm2)
  refine ⟨i, ?_⟩
  have b := rn_bound (isF_Tg g m (by omega)) hm
  rw [← i.val, Int.natAbs_mul, Int.natAbs_pow] at b
  exact Nat.le_of_mul_le_mul_right b (Nat.two_pow_pos g)
end Go.Proofs.Ytbgmadijifefiaa.EftLaw
