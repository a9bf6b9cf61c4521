/- What TwoProd answers: the rounded product, and just what is missing; and how little that is. Conditions: the document's bounds on the numbers. -/
import Derived.Test.YtbgmadijifefiaaKEftHalvesProdLaw
namespace Go.Proofs.Ytbgmadijifefiaa.EftLaw
open Go.Proofs.Ytbgmadijifefiaa.FW Go.Proofs.Ytbgmadijifefiaa.Eft Fl
theorem isF_Tg (g m : Nat) (hm : m ≤ 2^53) : isF g ((m * T0 * 2^g : Nat) : Int) := by
  refine ⟨TE + g, Nat.le_add_left _ _, ?_, ?_⟩
  · rw [natAbs_dvd', Int.natAbs_natCast, Nat.pow_add, Nat.mul_assoc]; exact Nat.dvd_mul_left _ _
  · rw [Int.natAbs_natCast, Nat.pow_add, Nat.mul_assoc]; exact Nat.mul_le_mul_right _ hm
theorem mul_in {g x y r m : Nat} (hg : g = 1074) (h : FOp .mul x y r) (fx : fin x) (fy : fin y) (hm : (U x * U y).natAbs ≤ m * T0 * 2^g) (hm2 : m ≤ 2^53 - 1) :
    Is g (U x * U y) r ∧ (U r).natAbs ≤ m * T0 := by
  have i : Is g (U x * U y) r := by rw [hg]; exact fop_mul h fx fy (by rw [← hg]; exact le_top hm hm2)
  refine ⟨i, ?_⟩
  have b := rn_bound (isF_Tg g m (by omega)) hm
  rw [← i.val, Int.natAbs_mul, Int.natAbs_pow] at b
  exact Nat.le_of_mul_le_mul_right b (Nat.two_pow_pos g)
theorem scale0 {v : Int} {r : Nat} (g : Nat) (i : Is 0 v r) : U r * 2^g = rnI g (v * 2^g) := by
  have s := rnI_scale 0 v g
  rw [Nat.zero_add] at s
  rw [s, val0 i]
theorem add_in {x y r m : Nat} (g : Nat) (h : FOp .add x y r) (fx : fin x) (fy : fin y) (hm : (U x + U y).natAbs ≤ m * T0) (hm2 : m ≤ 2^53 - 1) :
    Is 0 (U x + U y) r ∧ (U r).natAbs ≤ m * T0 ∧ U r * 2^g = rnI g (U x * 2^g + U y * 2^g) := by
  have i := fop_add h fx fy (le_top0 hm hm2)
  refine ⟨i, ?_, by rw [scale0 g i, Int.add_mul]⟩
  have b := rn_le_T hm (by omega)
  rw [← val0 i] at b
  exact b
theorem sub_in {x y r m : Nat} (g : Nat) (h : FOp .sub x y r) (fx : fin x) (fy : fin y) (hm : (U x - U y).natAbs ≤ m * T0) (hm2 : m ≤ 2^53 - 1) :
    Is 0 (U x - U y) r ∧ (U r).natAbs ≤ m * T0 ∧ U r * 2^g = rnI g (U x * 2^g - U y * 2^g) := by
  have i := fop_sub h fx fy (le_top0 hm hm2)
  refine ⟨i, ?_, by rw [scale0 g i, Int.sub_mul]⟩
  have b := rn_le_T hm (by omega)
  rw [← val0 i] at b
  exact b
theorem four_mul {X Y : Nat} : 2 * X * (2 * Y) = 4 * (X * Y) := by rw [Nat.mul_mul_mul_comm]
theorem hh_bound {X Y A B N : Nat} (h1 : 2 * X ≤ 3 * A) (h2 : 2 * Y ≤ 3 * B) (h : A * B ≤ 2^50 * N) : X * Y ≤ 9 * 2^48 * N := by
  have h3 := Nat.mul_le_mul h1 h2
  rw [four_mul, Nat.mul_mul_mul_comm 3] at h3
  omega
theorem hl_bound {X Y A B N : Nat} (h1 : 2 * X ≤ 3 * A) (h2 : 2 * Y ≤ B) (h : A * B ≤ 2^50 * N) : X * Y ≤ 2^50 * N := by
  have h3 := Nat.mul_le_mul h1 h2
  rw [four_mul, Nat.mul_assoc] at h3
  omega
theorem cut_hi {g : Nat} {a h l : Int} (c : Cut g a h l) : 2 * h.natAbs ≤ 3 * a.natAbs ∧ 2 * l.natAbs ≤ a.natAbs ∧ l.natAbs ≤ a.natAbs := by
  have h1 := cut_small c
  have h2 := c.sum
  omega
theorem ke_sum {g : Nat} {a b : Int} (h : 2^(g + 114) ≤ (a * b).natAbs) : g ≤ ke 0 a + ke 0 b := by
  have h1 := ke_lt 0 a
  have h2 := ke_lt 0 b
  have h1' : a.natAbs < 2^(53 + ke 0 a) := by rw [Nat.pow_add]; exact_mod_cast h1
  have h2' : b.natAbs < 2^(53 + ke 0 b) := by rw [Nat.pow_add]; exact_mod_cast h2
  have h3 := Nat.mul_lt_mul'' h1' h2'
  rw [← Int.natAbs_mul, ← Nat.pow_add] at h3
  have h4 := (Nat.pow_lt_pow_iff_right (a := 2) (by decide)).1 (Nat.lt_of_le_of_lt h h3)
  omega
theorem little {g : Nat} {v : Int} (h : 2^52 * (2:Int)^(ke g v) ≤ v.natAbs) : 2^53 * (v - rnI g v).natAbs ≤ (rnI g v).natAbs := by
  have he := rnI_err g v
  obtain ⟨K, hK⟩ : ∃ K : Int, K = 2^(ke g v) := ⟨_, rfl⟩
  have hpos := ipw (ke g v)
  have hf : isF g (2^52 * K) := isF_of (ke g v) (ke_ge g v) (by rw [hK]; exact Int.dvd_mul_left _ _) (by rw [← hK] at hpos ⊢; omega)
  rw [← hK] at h he hpos
  by_cases h0 : 0 ≤ v
  · have n := rnI_near hf (v := v)
    omega
  · have n := rnI_near (isF_neg hf) (v := v)
    omega
theorem little_big {g : Nat} {v : Int} (h : 2^(g + 52) ≤ v.natAbs) : 2^53 * (v - rnI g v).natAbs ≤ (rnI g v).natAbs := by
  by_cases hk : ke g v = g
  · refine little ?_
    rw [hk]
    rw [Nat.pow_add, Nat.mul_comm] at h
    exact_mod_cast h
  · exact little (ke_le hk)
theorem prod_law {g a b p e : Nat} (hg : g = 1074) (hR : ProdR a b p e) (ha : sz a ≤ 2018 * 2^52) (hb : sz b ≤ 2018 * 2^52)
    (hlo : U a * U b = 0 ∨ 2^(g + 114) ≤ (U a * U b).natAbs) (hhi : (U a * U b).natAbs ≤ 2^50 * T0 * 2^g) :
    Is g (U a * U b) p ∧ fin e ∧ (U p).natAbs ≤ 2^50 * T0 ∧ (U p + U e) * 2^g = U a * U b ∧ 2^53 * (U e).natAbs ≤ (U p).natAbs := by
  obtain ⟨ah, al, bh, bl, x1, e1, x2, e2, x3, e3, x4, hp, sa, sb, h1, k1, h2, k2, h3, k3, h4, k4⟩ := hR
  obtain ⟨fa, fah, fal, ba, ca⟩ := split_law sa ha
  obtain ⟨fb, fbh, fbl, bb, cb⟩ := split_law sb hb
  obtain ⟨a1, a2, a3⟩ := cut_hi ca
  obtain ⟨b1, b2, b3⟩ := cut_hi cb
  have hN : (U a).natAbs * (U b).natAbs ≤ 2^50 * (T0 * 2^g) := by rw [← Int.natAbs_mul, ← Nat.mul_assoc]; exact hhi
  have hN' : (U b).natAbs * (U a).natAbs ≤ 2^50 * (T0 * 2^g) := by rw [Nat.mul_comm]; exact hN
  obtain ⟨ip, bp⟩ := mul_in hg hp fa fb hhi (by decide)
  obtain ⟨i1, c1⟩ := mul_in (m := 9 * 2^48) hg h1 fah fbh (by rw [Int.natAbs_mul, Nat.mul_assoc (9 * 2^48)]; exact hh_bound a1 b1 hN) (by decide)
  obtain ⟨i2, c2⟩ := mul_in (m := 2^50) hg h2 fah fbl (by rw [Int.natAbs_mul, Nat.mul_assoc (2^50)]; exact hl_bound a1 b2 hN) (by decide)
  obtain ⟨i3, c3⟩ := mul_in (m := 2^50) hg h3 fal fbh (by rw [Int.natAbs_mul, Nat.mul_comm (U al).natAbs, Nat.mul_assoc (2^50)]; exact hl_bound b1 a2 hN') (by decide)
  obtain ⟨i4, c4⟩ := mul_in (m := 2^50) hg h4 fal fbl (by rw [Int.natAbs_mul, Nat.mul_assoc (2^50)]; exact Nat.le_trans (Nat.mul_le_mul a3 b3) hN) (by decide)
  obtain ⟨j1, d1, w1⟩ := sub_in (m := 13 * 2^48) g k1 i1.fin ip.fin (by omega) (by decide)
  obtain ⟨j2, d2, w2⟩ := add_in (m := 17 * 2^48) g k2 j1.fin i2.fin (by omega) (by decide)
  obtain ⟨j3, d3, w3⟩ := add_in (m := 21 * 2^48) g k3 j2.fin i3.fin (by omega) (by decide)
  obtain ⟨j4, d4, w4⟩ := add_in (m := 25 * 2^48) g k4 j3.fin i4.fin (by omega) (by decide)
  have hk : U a * U b = 0 ∨ g ≤ ke 0 (U a) + ke 0 (U b) := hlo.imp id ke_sum
  have hT := (two_prod (U_isF a) (U_isF b) ca cb hk ip.val i1.val w1 i2.val w2 i3.val w3 i4.val w4).1
  refine ⟨ip, j4.fin, bp, by rw [Int.add_mul]; exact hT, ?_⟩
  have hl : 2^53 * (U a * U b - rnI g (U a * U b)).natAbs ≤ (rnI g (U a * U b)).natAbs := by
    rcases hlo with h | h
    · rw [h, rnI_exact (isF_zero g)]; decide
    · exact little_big (Nat.le_trans (Nat.pow_le_pow_right (by decide) (by omega)) h)
  rw [← ip.val] at hl
  have he : U a * U b - U p * 2^g = U e * 2^g := by omega
  rw [he, Int.natAbs_mul, Int.natAbs_mul, Int.natAbs_pow, ← Nat.mul_assoc] at hl
  exact Nat.le_of_mul_le_mul_right hl (Nat.two_pow_pos g)
end Go.Proofs.Ytbgmadijifefiaa.EftLaw
