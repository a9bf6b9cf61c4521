/- What TwoSum, FastTwoSum, Split and TwoProd answer, in whole numbers of units: the rounded sum (product), and just what is missing. Conditions: the document's bounds on the numbers. What Split and TwoProd answer, in whole numbers of units: a cut in two, the rounded product, and just what is missing. Conditions: the document's bounds on the numbers. What TwoProd answers: the rounded product, and just what is missing; and how little that is. Conditions: the document's bounds on the numbers. -/
import Derived.Test.YtbgmadijifefiaaKAcceptAllEft
section
namespace Go.Proofs.Ytbgmadijifefiaa.EftLaw
open Go.Proofs.Ytbgmadijifefiaa.FW Go.Proofs.Ytbgmadijifefiaa.Eft Fl
noncomputable def T0 : Nat := 2^TE
theorem T0_pos : 0 < T0 := pw _
theorem top_T : top 0 = (2^53 - 1) * T0 := rfl
theorem mg_top (k : Nat) : mg ((k + 1) * 2^52) = 2^52 * 2^k := by
 have := mg_make (k := k) (m := 2^52) (by decide) (Or.inr (Nat.le_refl _))
 have e : (k + 1) * 2^52 = k * 2^52 + 2^52 := by omega
 rw [e]; exact this
theorem fop_add {x y r : Nat} (h : FOp .add x y r) (hx : fin x) (hy : fin y) (hm : (U x + U y).natAbs ≤ top 0) : Is 0 (U x + U y) r := by
 obtain ⟨v, hv, hi⟩ := add_fin hx hy hm
 rw [h.val v hv]; exact hi
theorem fop_sub {x y r : Nat} (h : FOp .sub x y r) (hx : fin x) (hy : fin y) (hm : (U x - U y).natAbs ≤ top 0) : Is 0 (U x - U y) r := by
 obtain ⟨v, hv, hi⟩ := sub_fin hx hy hm
 rw [h.val v hv]; exact hi
theorem fop_mul {x y r : Nat} (h : FOp .mul x y r) (hx : fin x) (hy : fin y) (hm : (U x * U y).natAbs ≤ top 1074) : Is 1074 (U x * U y) r := by
 obtain ⟨v, hv, hi⟩ := mul_fin hx hy hm
 rw [h.val v hv]; exact hi
theorem val0 {v : Int} {r : Nat} (h : Is 0 v r) : U r = rnI 0 v := by
 have := h.val; rw [Int.pow_zero, Int.mul_one] at this; exact this
theorem isF_T (m : Nat) (hm : m ≤ 2^53) : isF 0 ((m * T0 : Nat) : Int) := by
 refine ⟨TE, Nat.zero_le _, ?_, ?_⟩
 ·rw [natAbs_dvd', Int.natAbs_natCast]; exact Nat.dvd_mul_left _ _
 ·rw [Int.natAbs_natCast]; exact Nat.mul_le_mul_right _ hm
theorem atMost_1022 {a : Nat} (h : sz a ≤ 2045 * 2^52) : fin a ∧ (U a).natAbs ≤ 2^51 * T0 := by
 refine ⟨by unfold fin INF; omega, ?_⟩
 rw [U_natAbs]
 have h1 := mg_le h
 obtain ⟨k, hk⟩ : ∃ k, TE = k + 1 := ⟨TE - 1, by have := TE_eq; omega⟩
 have h2 := mg_top k
 rw [← hk, TE_eq] at h2
 have h3 : T0 = 2 * 2^k := by unfold T0; rw [hk, Nat.pow_succ]; omega
 omega
theorem twoSum_law {a b s e : Nat} (h : TwoSumR a b s e) (ha : sz a ≤ 2045 * 2^52) (hb : sz b ≤ 2045 * 2^52) :
  Is 0 (U a + U b) s ∧ Is 0 (U a + U b - U s) e ∧ U s + U e = U a + U b := by
 obtain ⟨bb, aa, t1, t2, h1, h2, h3, h4, h5, h6⟩ := h
 obtain ⟨fa, ba⟩ := atMost_1022 ha
 obtain ⟨fb, bb'⟩ := atMost_1022 hb
 have hT := T0_pos
 have ht := top_T
 have i1 := fop_add h1 fa fb (by omega)
 have v1 := val0 i1
 have n1 := rnI_near (g := 0) (v := U a + U b) (U_isF a)
 have n1b := rnI_near (g := 0) (v := U a + U b) (U_isF b)
 rw [← v1] at n1 n1b
 have i2 := fop_sub h2 i1.fin fa (by omega)
 have v2 := val0 i2
 have b2 := rn_bound (g := 0) (v := U s - U a) (m := 2^52 * T0) (isF_T _ (by decide)) (by omega)
 have n2 := rnI_near (g := 0) (v := U s - U a) (U_isF s)
 rw [← v2] at b2 n2
 have i3 := fop_sub h3 i1.fin i2.fin (by omega)
 have v3 := val0 i3
 have b3 := rn_bound (g := 0) (v := U s - U bb) (m := 2^52 * T0) (isF_T _ (by decide)) (by omega)
 rw [← v3] at b3
 have i4 := fop_sub h4 fa i3.fin (by omega)
 have i5 := fop_sub h5 fb i2.fin (by omega)
 have hin := two_sum_in (g := 0) (U_isF a) (U_isF b) v1 v2 v3
 rw [← val0 i4, ← val0 i5] at hin
 have i6 := fop_add h6 i4.fin i5.fin (by omega)
 rw [hin] at i6
 have v6 := val0 i6
 have e6 : rnI 0 (U a + U b - U s) = U a + U b - U s := by rw [v1]; exact rnI_exact (err_isF (U_isF a) (U_isF b))
 rw [e6] at v6
 exact ⟨i1, i6, by omega⟩
end Go.Proofs.Ytbgmadijifefiaa.EftLaw
end
section
namespace Go.Proofs.Ytbgmadijifefiaa.EftLaw
open Go.Proofs.Ytbgmadijifefiaa.FW Go.Proofs.Ytbgmadijifefiaa.Eft Fl
theorem top_g (g : Nat) : top g = (2^53 - 1) * T0 * 2^g := by
 unfold top T0; rw [Nat.pow_add, Nat.mul_assoc]
theorem le_top {v : Int} {g m : Nat} (h : v.natAbs ≤ m * T0 * 2^g) (hm : m ≤ 2^53 - 1) : v.natAbs ≤ top g := by
 rw [top_g]
 exact Nat.le_trans h (Nat.mul_le_mul_right _ (Nat.mul_le_mul_right _ hm))
theorem le_top0 {v : Int} {m : Nat} (h : v.natAbs ≤ m * T0) (hm : m ≤ 2^53 - 1) : v.natAbs ≤ top 0 := by
 rw [top_T]; exact Nat.le_trans h (Nat.mul_le_mul_right _ hm)
theorem rn_le_T {v : Int} {m : Nat} (h : v.natAbs ≤ m * T0) (hm : m ≤ 2^53) : (rnI 0 v).natAbs ≤ m * T0 := rn_bound (isF_T m hm) h
theorem atMost_995 {a : Nat} (h : sz a ≤ 2018 * 2^52) : fin a ∧ (U a).natAbs ≤ 2^24 * T0 := by
 refine ⟨by unfold fin INF; omega, ?_⟩
 rw [U_natAbs]
 have h1 := mg_le h
 obtain ⟨k, hk⟩ : ∃ k, k = 2017 := ⟨_, rfl⟩
 have h2 := mg_top k
 rw [show (k + 1) * 2^52 = 2018 * 2^52 by omega] at h2
 have h3 : T0 = 2^28 * 2^k := by
  have e : TE = 28 + k := by have := TE_eq; omega
  unfold T0; rw [e, Nat.pow_add]
 rw [h2] at h1
 rw [h3]
 omega
end Go.Proofs.Ytbgmadijifefiaa.EftLaw
end
section
namespace Go.Proofs.Ytbgmadijifefiaa.EftLaw
open Go.Proofs.Ytbgmadijifefiaa.FW Go.Proofs.Ytbgmadijifefiaa.Eft Fl
theorem isF_Tg (g m : Nat) (hm : m ≤ 2^53) : isF g ((m * T0 * 2^g : Nat) : Int) := by
 refine ⟨TE + g, Nat.le_add_left _ _, ?_, ?_⟩
 ·rw [natAbs_dvd', Int.natAbs_natCast, Nat.pow_add, Nat.mul_assoc]; exact Nat.dvd_mul_left _ _
 ·rw [Int.natAbs_natCast, Nat.pow_add, Nat.mul_assoc]; exact Nat.mul_le_mul_right _ hm
theorem mul_in {g x y r m : Nat} (hg : g = 1074) (h : FOp .mul x y r) (fx : fin x) (fy : fin y) (hm : (U x * U y).natAbs ≤ m * T0 * 2^g) (hm2 : m ≤ 2^53 - 1) :
  Is g (U x * U y) r ∧ (U r).natAbs ≤ m * T0 := by
 have i : Is g (U x * U y) r := by rw [hg]; exact fop_mul h fx fy (by rw [← hg]; exact le_top hm hm2)
 refine ⟨i, ?_⟩
 have b := rn_bound (isF_Tg g m (by omega)) hm
 rw [← i.val, Int.natAbs_mul, Int.natAbs_pow] at b
 exact Nat.le_of_mul_le_mul_right b (Nat.two_pow_pos g)
end Go.Proofs.Ytbgmadijifefiaa.EftLaw
end
