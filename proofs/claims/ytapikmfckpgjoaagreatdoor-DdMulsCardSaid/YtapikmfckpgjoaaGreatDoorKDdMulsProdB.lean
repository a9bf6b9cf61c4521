/- What Split and TwoProd answer, in whole numbers of units: a cut in two, the rounded product, and just what is missing. Conditions: the document's bounds on the numbers. What TwoProd answers: the rounded product, and just what is missing; and how little that is. Conditions: the document's bounds on the numbers. -/
import Derived.Test.YtapikmfckpgjoaaGreatDoorKDdMulsEftLaw
section
namespace Go.Proofs.YtapikmfckpgjoaaGreatDoor.EftLaw
open Go.Proofs.YtapikmfckpgjoaaGreatDoor.FW Go.Proofs.YtapikmfckpgjoaaGreatDoor.Eft Fl
theorem top_g (g : Nat) : top g = (2^53 - 1) * T0 * 2^g := by
 unfold top T0; rw [Nat.pow_add, Nat.mul_assoc]
theorem le_top {v : Int} {g m : Nat} (h : v.natAbs ≤ m * T0 * 2^g) (hm : m ≤ 2^53 - 1) : v.natAbs ≤ top g := by
 rw [top_g]
 exact Nat.le_trans h (Nat.mul_le_mul_right _ (Nat.mul_le_mul_right _ hm))
theorem le_top0 {v : Int} {m : Nat} (h : v.natAbs ≤ m * T0) (hm : m ≤ 2^53 - 1) : v.natAbs ≤ top 0 := by
 rw [top_T]; exact Nat.le_trans h (Nat.mul_le_mul_right _ hm)
theorem rn_le_T {v : Int} {m : Nat} (h : v.natAbs ≤ m * T0) (hm : m ≤ 2^53) : (rnI 0 v).natAbs ≤ m * T0 := rn_bound (isF_T m hm) h
theorem castQ (q : Nat) : ((134217729 * (2^25 * q) : Nat) : Int) = 134217729 * (2^25 * (q : Int)) := by omega
theorem castK (k : Nat) : ((134217729 * (2^25 * 2^k) : Nat) : Int) = 134217729 * (2^25 * 2^k) := by
 have e5 : (2 : Int)^k = ((2^k : Nat) : Int) := by rw [Int.natCast_pow]; rfl
 rw [e5]; exact castQ _
theorem U_K (g : Nat) (hg : g = 1074) : U 4728779608772575232 = 134217729 * 2^g := by
 obtain ⟨k, hk⟩ : ∃ k, k = 1049 := ⟨_, rfl⟩
 have h1 := mg_make (k := k) (m := 2^52 + 2^25) (by decide) (Or.inr (by decide))
 have e1 : sz 4728779608772575232 = k * 2^52 + (2^52 + 2^25) := by unfold sz; omega
 have e2 : ng 4728779608772575232 = false := by decide
 unfold U
 rw [e2, e1, h1]
 have e3 : g = 25 + k := by omega
 rw [e3]
 rw [if_neg (by decide), Int.pow_add]
 have e4 : (2^52 + 2^25) * 2^k = 134217729 * (2^25 * 2^k) := by rw [← Nat.mul_assoc]
 rw [e4]
 exact castK k
theorem atMost_995 {a : Nat} (h : sz a ≤ 2018 * 2^52) : fin a ∧ (U a).natAbs ≤ 2^24 * T0 := by
 refine ⟨by unfold fin INF; omega, ?_⟩
 rw [U_natAbs]
 have h1 := mg_le h
 obtain ⟨k, hk⟩ : ∃ k, k = 2017 := ⟨_, rfl⟩
 have h2 := mg_top k
 rw [show (k + 1) * 2^52 = 2018 * 2^52 by omega] at h2
 have h3 : T0 = 2^28 * 2^k := by
  have e : TE = 28 + k := by have := TE_eq; omega
  unfold T0; rw [e, Nat.pow_add]
 rw [h2] at h1
 rw [h3]
 omega
theorem valg {g : Nat} {v : Int} {r : Nat} (h : Is g v r) : U r * 2^g = rnI g v := h.val
theorem split_c {g : Nat} {x c : Int} (h : c * 2^g = rnI g (134217729 * 2^g * x)) : c = rnI 0 (134217729 * x) := by
 have e : 134217729 * 2^g * x = 134217729 * x * 2^g := by rw [Int.mul_assoc, Int.mul_comm (2^g) x, ← Int.mul_assoc]
 rw [e] at h
 have s := rnI_scale 0 (134217729 * x) g
 rw [Nat.zero_add] at s
 rw [s] at h
 exact Int.eq_of_mul_eq_mul_right (by have := ipw g; omega) h
theorem split_law {a h l : Nat} (hR : SplitR a h l) (ha : sz a ≤ 2018 * 2^52) :
  fin a ∧ fin h ∧ fin l ∧ (U a).natAbs ≤ 2^24 * T0 ∧ Cut 0 (U a) (U h) (U l) := by
 obtain ⟨c, d, h1, h2, h3, h4⟩ := hR
 obtain ⟨fa, ba⟩ := atMost_995 ha
 have fK : fin 4728779608772575232 := by unfold fin INF sz; omega
 obtain ⟨g, hg⟩ : ∃ g, g = 1074 := ⟨_, rfl⟩
 have hK := U_K g hg
 have hm : (U 4728779608772575232 * U a).natAbs ≤ top g := by
  refine le_top (m := 134217729 * 2^24) ?_ (by decide)
  rw [hK, Int.natAbs_mul, Int.natAbs_mul, Int.natAbs_pow]
  have e : (134217729 : Int).natAbs * (2 : Int).natAbs ^ g * (U a).natAbs = 134217729 * (U a).natAbs * 2^g := by
   rw [Nat.mul_assoc, Nat.mul_comm _ (U a).natAbs, ← Nat.mul_assoc]; rfl
  rw [e]
  refine Nat.mul_le_mul_right _ ?_
  rw [Nat.mul_assoc]
  exact Nat.mul_le_mul_left _ ba
 have i1 := fop_mul h1 fK fa (by rw [← hg]; exact hm)
 have v1 := valg i1
 rw [← hg, hK] at v1
 have u1 := split_c v1
 have hT := T0_pos
 have b1 := rn_le_T (v := 134217729 * U a) (m := 134217729 * 2^24) (by rw [Int.natAbs_mul, Nat.mul_assoc]; exact Nat.mul_le_mul_left _ ba) (by decide)
 rw [← u1] at b1
 have m2 : (U c - U a).natAbs ≤ (134217729 * 2^24 + 2^24) * T0 := by omega
 have i2 := fop_sub h2 i1.fin fa (le_top0 m2 (by decide))
 have b2 := rn_le_T m2 (by decide)
 rw [← val0 i2] at b2
 have m3 : (U c - U d).natAbs ≤ (2 * 134217729 * 2^24 + 2^24) * T0 := by omega
 have i3 := fop_sub h3 i1.fin i2.fin (le_top0 m3 (by decide))
 have b3 := rn_le_T m3 (by decide)
 rw [← val0 i3] at b3
 have m4 : (U a - U h).natAbs ≤ (2 * 134217729 * 2^24 + 2 * 2^24) * T0 := by omega
 have i4 := fop_sub h4 fa i3.fin (le_top0 m4 (by decide))
 exact ⟨fa, i3.fin, i4.fin, ba, split_all (U_isF a) u1 (val0 i2) (val0 i3) (val0 i4)⟩
end Go.Proofs.YtapikmfckpgjoaaGreatDoor.EftLaw
end
section
namespace Go.Proofs.YtapikmfckpgjoaaGreatDoor.EftLaw
open Go.Proofs.YtapikmfckpgjoaaGreatDoor.FW Go.Proofs.YtapikmfckpgjoaaGreatDoor.Eft Fl
theorem isF_Tg (g m : Nat) (hm : m ≤ 2^53) : isF g ((m * T0 * 2^g : Nat) : Int) := by
 refine ⟨TE + g, Nat.le_add_left _ _, ?_, ?_⟩
 ·rw [natAbs_dvd', Int.natAbs_natCast, Nat.pow_add, Nat.mul_assoc]; exact Nat.dvd_mul_left _ _
 ·rw [Int.natAbs_natCast, Nat.pow_add, Nat.mul_assoc]; exact Nat.mul_le_mul_right _ hm
theorem mul_in {g x y r m : Nat} (hg : g = 1074) (h : FOp .mul x y r) (fx : fin x) (fy : fin y) (hm : (U x * U y).natAbs ≤ m * T0 * 2^g) (hm2 : m ≤ 2^53 - 1) :
  Is g (U x * U y) r ∧ (U r).natAbs ≤ m * T0 := by
 have i : Is g (U x * U y) r := by rw [hg]; exact fop_mul h fx fy (by rw [← hg]; exact le_top hm hm2)
 refine ⟨i, ?_⟩
 have b := rn_bound (isF_Tg g m (by omega)) hm
 rw [← i.val, Int.natAbs_mul, Int.natAbs_pow] at b
 exact Nat.le_of_mul_le_mul_right b (Nat.two_pow_pos g)
theorem scale0 {v : Int} {r : Nat} (g : Nat) (i : Is 0 v r) : U r * 2^g = rnI g (v * 2^g) := by
 have s := rnI_scale 0 v g
 rw [Nat.zero_add] at s
 rw [s, val0 i]
theorem add_in {x y r m : Nat} (g : Nat) (h : FOp .add x y r) (fx : fin x) (fy : fin y) (hm : (U x + U y).natAbs ≤ m * T0) (hm2 : m ≤ 2^53 - 1) :
  Is 0 (U x + U y) r ∧ (U r).natAbs ≤ m * T0 ∧ U r * 2^g = rnI g (U x * 2^g + U y * 2^g) := by
 have i := fop_add h fx fy (le_top0 hm hm2)
 refine ⟨i, ?_, by rw [scale0 g i, Int.add_mul]⟩
 have b := rn_le_T hm (by omega)
 rw [← val0 i] at b
 exact b
theorem sub_in {x y r m : Nat} (g : Nat) (h : FOp .sub x y r) (fx : fin x) (fy : fin y) (hm : (U x - U y).natAbs ≤ m * T0) (hm2 : m ≤ 2^53 - 1) :
  Is 0 (U x - U y) r ∧ (U r).natAbs ≤ m * T0 ∧ U r * 2^g = rnI g (U x * 2^g - U y * 2^g) := by
 have i := fop_sub h fx fy (le_top0 hm hm2)
 refine ⟨i, ?_, by rw [scale0 g i, Int.sub_mul]⟩
 have b := rn_le_T hm (by omega)
 rw [← val0 i] at b
 exact b
theorem four_mul {X Y : Nat} : 2 * X * (2 * Y) = 4 * (X * Y) := by rw [Nat.mul_mul_mul_comm]
theorem hh_bound {X Y A B N : Nat} (h1 : 2 * X ≤ 3 * A) (h2 : 2 * Y ≤ 3 * B) (h : A * B ≤ 2^50 * N) : X * Y ≤ 9 * 2^48 * N := by
 have h3 := Nat.mul_le_mul h1 h2
 rw [four_mul, Nat.mul_mul_mul_comm 3] at h3
 omega
theorem hl_bound {X Y A B N : Nat} (h1 : 2 * X ≤ 3 * A) (h2 : 2 * Y ≤ B) (h : A * B ≤ 2^50 * N) : X * Y ≤ 2^50 * N := by
 have h3 := Nat.mul_le_mul h1 h2
 rw [four_mul, Nat.mul_assoc] at h3
 omega
theorem cut_hi {g : Nat} {a h l : Int} (c : Cut g a h l) : 2 * h.natAbs ≤ 3 * a.natAbs ∧ 2 * l.natAbs ≤ a.natAbs ∧ l.natAbs ≤ a.natAbs := by
 have h1 := cut_small c
 have h2 := c.sum
 omega
theorem ke_sum {g : Nat} {a b : Int} (h : 2^(g + 114) ≤ (a * b).natAbs) : g ≤ ke 0 a + ke 0 b := by
 have h1 := ke_lt 0 a
 have h2 := ke_lt 0 b
 have h1' : a.natAbs < 2^(53 + ke 0 a) := by rw [Nat.pow_add]; exact_mod_cast h1
 have h2' : b.natAbs < 2^(53 + ke 0 b) := by rw [Nat.pow_add]; exact_mod_cast h2
 have h3 := Nat.mul_lt_mul'' h1' h2'
 rw [← Int.natAbs_mul, ← Nat.pow_add] at h3
 have h4 := (Nat.pow_lt_pow_iff_right (a := 2) (by decide)).1 (Nat.lt_of_le_of_lt h h3)
 omega
theorem little {g : Nat} {v : Int} (h : 2^52 * (2:Int)^(ke g v) ≤ v.natAbs) : 2^53 * (v - rnI g v).natAbs ≤ (rnI g v).natAbs := by
 have he := rnI_err g v
 obtain ⟨K, hK⟩ : ∃ K : Int, K = 2^(ke g v) := ⟨_, rfl⟩
 have hpos := ipw (ke g v)
 have hf : isF g (2^52 * K) := isF_of (ke g v) (ke_ge g v) (by rw [hK]; exact Int.dvd_mul_left _ _) (by rw [← hK] at hpos ⊢; omega)
 rw [← hK] at h he hpos
 by_cases h0 : 0 ≤ v
 ·have n := rnI_near hf (v := v)
  omega
 ·have n := rnI_near (isF_neg hf) (v := v)
  omega
theorem little_big {g : Nat} {v : Int} (h : 2^(g + 52) ≤ v.natAbs) : 2^53 * (v - rnI g v).natAbs ≤ (rnI g v).natAbs := by
 by_cases hk : ke g v = g
 ·refine little ?_
  rw [hk]
  rw [Nat.pow_add, Nat.mul_comm] at h
  exact_mod_cast h
 ·exact little (ke_le hk)
theorem prod_law {g a b p e : Nat} (hg : g = 1074) (hR : ProdR a b p e) (ha : sz a ≤ 2018 * 2^52) (hb : sz b ≤ 2018 * 2^52)
  (hlo : U a * U b = 0 ∨ 2^(g + 114) ≤ (U a * U b).natAbs) (hhi : (U a * U b).natAbs ≤ 2^50 * T0 * 2^g) :
  Is g (U a * U b) p ∧ fin e ∧ (U p).natAbs ≤ 2^50 * T0 ∧ (U p + U e) * 2^g = U a * U b ∧ 2^53 * (U e).natAbs ≤ (U p).natAbs := by
 obtain ⟨ah, al, bh, bl, x1, e1, x2, e2, x3, e3, x4, hp, sa, sb, h1, k1, h2, k2, h3, k3, h4, k4⟩ := hR
 obtain ⟨fa, fah, fal, ba, ca⟩ := split_law sa ha
 obtain ⟨fb, fbh, fbl, bb, cb⟩ := split_law sb hb
 obtain ⟨a1, a2, a3⟩ := cut_hi ca
 obtain ⟨b1, b2, b3⟩ := cut_hi cb
 have hN : (U a).natAbs * (U b).natAbs ≤ 2^50 * (T0 * 2^g) := by rw [← Int.natAbs_mul, ← Nat.mul_assoc]; exact hhi
 have hN' : (U b).natAbs * (U a).natAbs ≤ 2^50 * (T0 * 2^g) := by rw [Nat.mul_comm]; exact hN
 obtain ⟨ip, bp⟩ := mul_in hg hp fa fb hhi (by decide)
 obtain ⟨i1, c1⟩ := mul_in (m := 9 * 2^48) hg h1 fah fbh (by rw [Int.natAbs_mul, Nat.mul_assoc (9 * 2^48)]; exact hh_bound a1 b1 hN) (by decide)
 obtain ⟨i2, c2⟩ := mul_in (m := 2^50) hg h2 fah fbl (by rw [Int.natAbs_mul, Nat.mul_assoc (2^50)]; exact hl_bound a1 b2 hN) (by decide)
 obtain ⟨i3, c3⟩ := mul_in (m := 2^50) hg h3 fal fbh (by rw [Int.natAbs_mul, Nat.mul_comm (U al).natAbs, Nat.mul_assoc (2^50)]; exact hl_bound b1 a2 hN') (by decide)
 obtain ⟨i4, c4⟩ := mul_in (m := 2^50) hg h4 fal fbl (by rw [Int.natAbs_mul, Nat.mul_assoc (2^50)]; exact Nat.le_trans (Nat.mul_le_mul a3 b3) hN) (by decide)
 obtain ⟨j1, d1, w1⟩ := sub_in (m := 13 * 2^48) g k1 i1.fin ip.fin (by omega) (by decide)
 obtain ⟨j2, d2, w2⟩ := add_in (m := 17 * 2^48) g k2 j1.fin i2.fin (by omega) (by decide)
 obtain ⟨j3, d3, w3⟩ := add_in (m := 21 * 2^48) g k3 j2.fin i3.fin (by omega) (by decide)
 obtain ⟨j4, d4, w4⟩ := add_in (m := 25 * 2^48) g k4 j3.fin i4.fin (by omega) (by decide)
 have hk : U a * U b = 0 ∨ g ≤ ke 0 (U a) + ke 0 (U b) := hlo.imp id ke_sum
 have hT := (two_prod (U_isF a) (U_isF b) ca cb hk ip.val i1.val w1 i2.val w2 i3.val w3 i4.val w4).1
 refine ⟨ip, j4.fin, bp, by rw [Int.add_mul]; exact hT, ?_⟩
 have hl : 2^53 * (U a * U b - rnI g (U a * U b)).natAbs ≤ (rnI g (U a * U b)).natAbs := by
  rcases hlo with h | h
  ·rw [h, rnI_exact (isF_zero g)]; decide
  ·exact little_big (Nat.le_trans (Nat.pow_le_pow_right (by decide) (by omega)) h)
 rw [← ip.val] at hl
 have he : U a * U b - U p * 2^g = U e * 2^g := by omega
 rw [he, Int.natAbs_mul, Int.natAbs_mul, Int.natAbs_pow, ← Nat.mul_assoc] at hl
 exact Nat.le_of_mul_le_mul_right hl (Nat.two_pow_pos g)
end Go.Proofs.YtapikmfckpgjoaaGreatDoor.EftLaw
end
