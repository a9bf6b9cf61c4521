/- What the reference's comparison of scaled numbers and its rounding to binary64 answer: the rung of the exact number, rounded to nearest, ties to even. Plain Lean over the printed functions. Conditions: exponents within 2^30, numbers of less than 2^37 digits. -/
import Derived.Test.YtbgmadijifefiaaKAcceptAllRefD
import Derived.Test.YtbgmadijifefiaaKAcceptAllPLibx7
import Derived.Test.YtbgmadijifefiaaKAcceptAllPLibx5
import Derived.Test.YtbgmadijifefiaaKAcceptAllPLibx8
import Derived.Test.YtbgmadijifefiaaKAcceptAllPLibx9
namespace Go.Proofs.Ytbgmadijifefiaa.Ref
open Go.RowKit Go.Proofs.YtbgmadijifefiaaW.PrintWords Go.Proofs.YtbgmadijifefiaaW.PrintMore Go.Proofs.Ytbgmadijifefiaa.Num Go.Proofs.Ytbgmadijifefiaa.PLib Fl
theorem bl_mul (m d : Nat) (h : m ≠ 0) : bl (m * 2^d) = bl m + d := by
 have h1 := bl_lt m
 have h2 := bl_ge h
 have h3 : bl m ≠ 0 := by unfold bl; rw [if_neg h]; omega
 apply bl_of
 ·rw [Nat.pow_add]; exact Nat.mul_lt_mul_of_pos_right h1 (Nat.two_pow_pos d)
 ·right
  rw [show bl m + d - 1 = bl m - 1 + d from by omega, Nat.pow_add]
  exact Nat.mul_le_mul_right _ h2
theorem bl_mono {a b : Nat} (h : a ≤ b) : bl a ≤ bl b := bl_le_of_lt (Nat.lt_of_le_of_lt h (bl_lt b))
theorem lt_of_bl {a b : Nat} (h : bl a < bl b) : a < b := by
 by_cases hc : a < b
 ·exact hc
 ·have := bl_mono (show b ≤ a by omega); omega
theorem sgn_cmp3 (a b : Nat) : sgn ((a : Int) - (b : Int)) = cmp3 a b := by
 unfold sgn cmp3
 by_cases h1 : a < b
 ·rw [if_neg (by omega), if_pos (by omega), if_pos h1]
 ·by_cases h2 : b < a
  ·rw [if_neg (by omega), if_neg (by omega), if_neg h1, if_pos h2]
  ·rw [if_pos (by omega), if_neg h1, if_neg h2]
def hold (m : Nat) (e : Int) (l : Nat) (f : Int) : Int := if f < e then cmp3 (m * 2^(e - f).toNat) l else cmp3 m (l * 2^(f - e).toNat)
theorem cmp3_lt {a b : Nat} (h : a < b) : cmp3 a b = -1 := if_pos h
theorem cmp3_gt {a b : Nat} (h : b < a) : cmp3 a b = 1 := by unfold cmp3; rw [if_neg (by omega), if_pos h]
theorem hold_ev (m l : Nat) (e f : Int) (hm0 : m ≠ 0) (hl0 : l ≠ 0) (hm : bl m < 1073741824) (hl : bl l < 1073741824) (he : -1073741824 < e) (he1 : e < 1073741824) (hf : -1073741824 < f) (hf1 : f < 1073741824) :
  Ev (fun k => gnomonref07_Hold.f k (zn (m : Int)) (zl (m : Int)) e (zn (l : Int)) (zl (l : Int)) f) (hold m e l f) := by
 have big : ∀ {n : Nat}, bl n < 8589934592 → (dg n).length < 274877906944 := fun {n} h => dg_len_bits (bl_lt n) (by omega)
 have zb : ∀ {n : Nat}, bl n < 8589934592 → Zs (n : Int) := fun {n} h => by unfold Zs; rw [Int.natAbs_natCast]; exact big h
 have sm : sgn (m : Int) = 1 := by unfold sgn; rw [if_neg (by omega), if_neg (by omega)]
 have sl : sgn (l : Int) = 1 := by unfold sgn; rw [if_neg (by omega), if_neg (by omega)]
 unfold gnomonref07_Hold.f
 simp only [zsign, sm, sl, Option.bind_some, if_true]
 have e0 : ((1 : Int) == 0) = false := by decide
 simp only [e0]
 refine Ev.step (f := fun k => (gnomonref01_Bits.f k (dg m)).bind fun t => (gnomonref01_Bits.f k (dg l)).bind fun u => if wrap64 (t + e) < wrap64 (u + f) then some (-1) else if wrap64 (t + e) > wrap64 (u + f) then some 1 else if e > f then (gnomonref04_Shl.f k (zn (m : Int)) (zl (m : Int)) (wrap64 (e - f))).bind fun b => (gnomonref04_Cmp.f k b.1 b.2 (zn (l : Int)) (zl (l : Int))).bind fun t => some t else (gnomonref04_Shl.f k (zn (l : Int)) (zl (l : Int)) (wrap64 (f - e))).bind fun b => (gnomonref04_Cmp.f k (zn (m : Int)) (zl (m : Int)) b.1 b.2).bind fun t => some t) (fun k => ?_) ?_
 ·have w1 : wrap64 (-1) = -1 := by rw [w64 (by omega) (by omega)]
  simp only [gnomonref07_Hold.j0, zsign, sm, Option.bind_some, w1]
  rw [if_neg (by decide)]
  rfl
 ·refine Ev.bind (bits_ev m (by have := big (n := m) (by omega); omega)) (Ev.bind (bits_ev l (by have := big (n := l) (by omega); omega)) ?_)
  rw [w64 (x := ((bl m : Nat) : Int) + e) (by omega) (by omega), w64 (x := ((bl l : Nat) : Int) + f) (by omega) (by omega), w64 (x := e - f) (by omega) (by omega), w64 (x := f - e) (by omega) (by omega)]
  unfold hold
  by_cases c1 : ((bl m : Nat) : Int) + e < ((bl l : Nat) : Int) + f
  ·simp only [if_pos c1]
   by_cases h : f < e
   ·rw [if_pos h, cmp3_lt (lt_of_bl (by rw [bl_mul _ _ hm0]; omega))]; exact Ev.now _
   ·rw [if_neg h, cmp3_lt (lt_of_bl (by rw [bl_mul _ _ hl0]; omega))]; exact Ev.now _
  ·simp only [if_neg c1]
   by_cases c2 : ((bl m : Nat) : Int) + e > ((bl l : Nat) : Int) + f
   ·simp only [if_pos c2]
    by_cases h : f < e
    ·rw [if_pos h, cmp3_gt (lt_of_bl (by rw [bl_mul _ _ hm0]; omega))]; exact Ev.now _
    ·rw [if_neg h, cmp3_gt (lt_of_bl (by rw [bl_mul _ _ hl0]; omega))]; exact Ev.now _
   ·simp only [if_neg c2]
    by_cases h : f < e
    ·have c3 : e > f := h
     simp only [if_pos c3]
     obtain ⟨d, hd⟩ := Int.eq_ofNat_of_zero_le (show 0 ≤ e - f by omega)
     have hb := bl_mul m d hm0
     have hz : Zs ((m : Int) * 2^d) := by
      have : ((m : Int) * 2^d) = ((m * 2^d : Nat) : Int) := by push_cast; rfl
      rw [this]; exact zb (by omega)
     have hs := zshl_ev (m : Int) d (zb (by omega)) (by omega) hz
     rw [hd, Int.toNat_natCast]
     refine Ev.bind hs ?_
     have ee : ((m : Int) * 2^d) = ((m * 2^d : Nat) : Int) := by push_cast; rfl
     have hc := zcmp_ev ((m : Int) * 2^d) (l : Int) hz (zb (by omega)) (by
      rw [ee]
      refine Zs_of (k := max (bl (m * 2^d)) (bl l)) ?_ (by omega)
      have h1 := bl_lt (m * 2^d)
      have h2 := bl_lt l
      have h3 := Nat.pow_le_pow_right (n := 2) (by decide) (Nat.le_max_left (bl (m * 2^d)) (bl l))
      have h4 := Nat.pow_le_pow_right (n := 2) (by decide) (Nat.le_max_right (bl (m * 2^d)) (bl l))
      generalize 2^(max (bl (m * 2^d)) (bl l)) = P at *
      generalize m * 2^d = M at *
      omega)
     rw [ee, sgn_cmp3, ← ee] at hc
     exact bind_some_ev hc
    ·have c3 : ¬ e > f := h
     simp only [if_neg c3]
     obtain ⟨d, hd⟩ := Int.eq_ofNat_of_zero_le (show 0 ≤ f - e by omega)
     have hb := bl_mul l d hl0
     have hz : Zs ((l : Int) * 2^d) := by
      have : ((l : Int) * 2^d) = ((l * 2^d : Nat) : Int) := by push_cast; rfl
      rw [this]; exact zb (by omega)
     have hs := zshl_ev (l : Int) d (zb (by omega)) (by omega) hz
     rw [hd, Int.toNat_natCast]
     refine Ev.bind hs ?_
     have ee : ((l : Int) * 2^d) = ((l * 2^d : Nat) : Int) := by push_cast; rfl
     have hc := zcmp_ev (m : Int) ((l : Int) * 2^d) (zb (by omega)) hz (by
      rw [ee]
      refine Zs_of (k := max (bl (l * 2^d)) (bl m)) ?_ (by omega)
      have h1 := bl_lt (l * 2^d)
      have h2 := bl_lt m
      have h3 := Nat.pow_le_pow_right (n := 2) (by decide) (Nat.le_max_left (bl (l * 2^d)) (bl m))
      have h4 := Nat.pow_le_pow_right (n := 2) (by decide) (Nat.le_max_right (bl (l * 2^d)) (bl m))
      generalize 2^(max (bl (l * 2^d)) (bl m)) = P at *
      generalize l * 2^d = M at *
      omega)
     rw [ee, sgn_cmp3, ← ee] at hc
     exact bind_some_ev hc
def szf (u : Nat) : Nat := (bl u - 53) * 2^52 + u / 2^(bl u - 53)
theorem szf_low {u : Nat} : u / 2^(bl u - 53) < 2^53 := by
 rw [Nat.div_lt_iff_lt_mul (Nat.two_pow_pos _), ← Nat.pow_add]
 exact Nat.lt_of_lt_of_le (bl_lt u) (Nat.pow_le_pow_right (by decide) (by omega))
theorem size_ev (u : Nat) (hu : bl u ≤ 4000) : Ev (fun k => gnomonref07_Size.f k 9223372036854775808 53 (-1074) 971 9218868437227405312 9221120237041090561 (dg u)) ((szf u : Nat) : Int) := by
 have hlen := dg_len_bits (bl_lt u) (show bl u ≤ 8796093022000 by omega)
 unfold gnomonref07_Size.f
 refine Ev.bind (bits_ev u (by omega)) ?_
 unfold szf
 by_cases h : bl u < 53
 ·have c : ((bl u : Nat) : Int) < 53 := by omega
  simp only [if_pos c]
  have e : bl u - 53 = 0 := by omega
  rw [e, Nat.zero_mul, Nat.pow_zero, Nat.div_one, Nat.zero_add]
  have := bl_lt u
  have h2 : 2^(bl u) ≤ 2^53 := Nat.pow_le_pow_right (by decide) (by omega)
  exact Ev.bind (fits_ev u (by omega)) (Ev.now _)
 ·have c : ¬ ((bl u : Nat) : Int) < 53 := by omega
  simp only [if_neg c]
  have e : wrap64 (((bl u : Nat) : Int) - 53) = ((bl u - 53 : Nat) : Int) := by rw [w64 (by omega) (by omega)]; omega
  have hlow := szf_low (u := u)
  simp only [e]
  refine Ev.bind (shr_ev u (bl u - 53) hlen (by omega)) (Ev.bind (fits_ev _ (by omega)) ?_)
  have c1 : wrap64 (53 - 1) = ((52 : Nat) : Int) := by rw [w64 (by omega) (by omega)]; rfl
  have c2 : (0 : Int) ≤ ((52 : Nat) : Int) := by decide
  simp only [c1, if_pos c2]
  have hd : bl u - 53 ≤ 3947 := by omega
  generalize u / 2^(bl u - 53) = q at *
  generalize bl u - 53 = d at *
  have e1 : IntKind.u64.wrap ((d : Nat) : Int) = (d : Int) := wu64 (by omega) (by omega)
  have e2 : shl .u64 (d : Int) ((52 : Nat) : Int) = ((d * 2^52 : Nat) : Int) := by
   unfold shl
   have e : min (((52 : Nat) : Int)).toNat IntKind.u64.bits = 52 := rfl
   rw [e, wu64 (by omega) (by omega)]; omega
  rw [e1, e2, wu64 (by omega) (by omega)]
  have : ((d * 2^52 : Nat) : Int) + (q : Int) = ((d * 2^52 + q : Nat) : Int) := by omega
  rw [this]
  exact Ev.now _
theorem kx_bl (g V : Nat) : kx g V - g = bl (V / 2^g) - 53 := by
 unfold kx
 by_cases h : V / 2^g = 0
 ·rw [h]
  have hlt : V < 2^g := by
   rcases Nat.div_eq_zero_iff.1 h with h | h
   ·have := Nat.two_pow_pos g; omega
   ·exact h
  have h0 : bl 0 = 0 := rfl
  rw [h0]
  by_cases hV : V = 0
  ·subst hV; rw [Nat.log2_zero]; omega
  ·have := (Nat.log2_lt hV).2 hlt
   omega
 ·have hV : V ≠ 0 := by intro e; rw [e, Nat.zero_div] at h; exact h rfl
  have h1 : (V / 2^g).log2 + g = V.log2 := by
   symm
   rw [Nat.log2_eq_iff hV]
   have a := Nat.log2_self_le h
   have b : V / 2^g < 2^((V / 2^g).log2 + 1) := Nat.lt_log2_self
   constructor
   ·rw [Nat.pow_add]
    exact (Nat.le_div_iff_mul_le (Nat.two_pow_pos g)).1 a
   ·rw [show (V / 2^g).log2 + g + 1 = (V / 2^g).log2 + 1 + g from by omega, Nat.pow_add]
    exact (Nat.div_lt_iff_lt_mul (Nat.two_pow_pos g)).1 b
  have h2 : bl (V / 2^g) = (V / 2^g).log2 + 1 := by unfold bl; rw [if_neg h]
  omega
theorem rung_size (g V : Nat) : rung g V = szf (V / 2^g) + (if (mg (szf (V / 2^g)) + mg (szf (V / 2^g) + 1)) * 2^g < 2 * V ∨ ((mg (szf (V / 2^g)) + mg (szf (V / 2^g) + 1)) * 2^g = 2 * V ∧ szf (V / 2^g) % 2 = 1) then 1 else 0) := by
 have hk := kx_bl g V
 have hge := kx_ge g V
 have hkk : kx g V = g + (bl (V / 2^g) - 53) := by omega
 have hq : V / 2^(kx g V) = V / 2^g / 2^(bl (V / 2^g) - 53) := by rw [hkk, Nat.pow_add, Nat.div_div_eq_div_mul]
 have hlow := szf_low (u := V / 2^g)
 have hhi : bl (V / 2^g) - 53 = 0 ∨ 2^52 ≤ V / 2^g / 2^(bl (V / 2^g) - 53) := by
  by_cases h : bl (V / 2^g) - 53 = 0
  ·exact Or.inl h
  ·right
   rw [Nat.le_div_iff_mul_le (Nat.two_pow_pos _), ← Nat.pow_add]
   have hne : V / 2^g ≠ 0 := by intro e; rw [e] at h; exact h rfl
   have := bl_ge hne
   rw [show bl (V / 2^g) - 1 = 52 + (bl (V / 2^g) - 53) from by omega] at this
   exact this
 have hm1 : mg (szf (V / 2^g)) = V / 2^g / 2^(bl (V / 2^g) - 53) * 2^(bl (V / 2^g) - 53) := by
  unfold szf; exact mg_make (Nat.le_of_lt hlow) hhi
 have hm2 : mg (szf (V / 2^g) + 1) = (V / 2^g / 2^(bl (V / 2^g) - 53) + 1) * 2^(bl (V / 2^g) - 53) := by
  unfold szf; rw [Nat.add_assoc]; exact mg_make (by omega) (by omega)
 have hsum : (mg (szf (V / 2^g)) + mg (szf (V / 2^g) + 1)) * 2^g = (2 * (V / 2^(kx g V)) + 1) * 2^(kx g V) := by
  rw [hm1, hm2, ← Nat.add_mul, Nat.mul_assoc, ← Nat.pow_add, hq, hkk, Nat.add_comm g]
  congr 1; omega
 have hpar : szf (V / 2^g) % 2 = V / 2^(kx g V) % 2 := by
  unfold szf; rw [hq]; omega
 have hs : szf (V / 2^g) = (kx g V - g) * 2^52 + V / 2^(kx g V) := by unfold szf; rw [hk, hq]
 have hdm := Nat.div_add_mod V (2^(kx g V))
 rw [hsum, hpar, hs]
 unfold rung rhe
 generalize V / 2^(kx g V) = q at *
 generalize V % 2^(kx g V) = r at *
 generalize 2^(kx g V) = P at *
 rw [Nat.add_mul, Nat.one_mul]
 have e : 2 * q * P = 2 * (P * q) := by rw [Nat.mul_assoc, Nat.mul_comm P]
 rw [e, ← Nat.add_assoc]
 congr 1
 by_cases h : P < 2 * r ∨ (P = 2 * r ∧ q % 2 = 1)
 ·rw [if_pos h, if_pos (by omega)]
 ·rw [if_neg h, if_neg (by omega)]
end Go.Proofs.Ytbgmadijifefiaa.Ref
