/- What TwoSum, FastTwoSum, Split and TwoProd answer, in whole numbers of units: the rounded sum (product), and just what is missing. Conditions: the document's bounds on the numbers. -/
import Derived.Test.YtbgmadijifefiaaKAcceptMirrorsEft
namespace Go.Proofs.Ytbgmadijifefiaa.EftLaw
open Go.Proofs.Ytbgmadijifefiaa.FW Go.Proofs.Ytbgmadijifefiaa.Eft Fl
noncomputable def T0 : Nat := 2^TE
theorem T0_pos : 0 < T0 := pw _
theorem top_T : top 0 = (2^53 - 1) * T0 := rfl
theorem mg_top (k : Nat) : mg ((k + 1) * 2^52) = 2^52 * 2^k := by
  have := mg_make (k := k) (m := 2^52) (by decide) (Or.inr (Nat.le_refl _))
  have e : (k + 1) * 2^52 = k * 2^52 + 2^52 := by omega
  rw [e]; exact this
theorem fop_add {x y r : Nat} (h : FOp .add x y r) (hx : fin x) (hy : fin y) (hm : (U x + U y).natAbs ≤ top 0) : Is 0 (U x + U y) r := by
  obtain ⟨v, hv, hi⟩ := add_fin hx hy hm
  rw [h.val v hv]; exact hi
theorem fop_sub {x y r : Nat} (h : FOp .sub x y r) (hx : fin x) (hy : fin y) (hm : (U x - U y).natAbs ≤ top 0) : Is 0 (U x - U y) r := by
  obtain ⟨v, hv, hi⟩ := sub_fin hx hy hm
  rw [h.val v hv]; exact hi
theorem fop_mul {x y r : Nat} (h : FOp .mul x y r) (hx : fin x) (hy : fin y) (hm : (U x * U y).natAbs ≤ top 1074) : Is 1074 (U x * U y) r := by
  obtain ⟨v, hv, hi⟩ := mul_fin hx hy hm
  rw [h.val v hv]; exact hi
theorem val0 {v : Int} {r : Nat} (h : Is 0 v r) : U r = rnI 0 v := by
  have := h.val; rw [Int.pow_zero, Int.mul_one] at this; exact this
theorem isF_T (m : Nat) (hm : m ≤ 2^53) : isF 0 ((m * T0 : Nat) : Int) := by
  refine ⟨TE, Nat.zero_le _, ?_, ?_⟩
  · rw [natAbs_dvd', Int.natAbs_natCast]; exact Nat.dvd_mul_left _ _
  · rw [Int.natAbs_natCast]; exact Nat.mul_le_mul_right _ hm
end Go.Proofs.Ytbgmadijifefiaa.EftLaw
