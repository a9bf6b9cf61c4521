/- What the reference's rounding of a scaled number to a binary64 pattern answers: the rung of the number, at most infinity's. Plain Lean over the printed functions. Conditions: numbers below 2^100000, in units of 2^-(1074 + g), g at most 1000000. -/
import Derived.Test.YtbgmadijifefiaaKAcceptAllRefE
import Derived.Test.YtbgmadijifefiaaKAcceptAllPLibx8
import Derived.Test.YtbgmadijifefiaaKAcceptAllPLibx9
namespace Go.Proofs.Ytbgmadijifefiaa.Ref
open Go.RowKit Go.Proofs.YtbgmadijifefiaaW.PrintWords Go.Proofs.YtbgmadijifefiaaW.PrintMore Go.Proofs.Ytbgmadijifefiaa.Num Go.Proofs.Ytbgmadijifefiaa.PLib Fl
theorem mn_nat (a b : Nat) : mn (a : Int) (b : Int) = ((min a b : Nat) : Int) := by unfold mn; split <;> omega
theorem szf_zero : szf 0 = 0 := by decide
theorem mg_zero' : mg 0 = 0 := rfl
theorem mg_one : mg 1 = 1 := by decide
theorem rung_small {g m : Nat} (h : bl m < g) : rung g m = 0 := by
 have h1 := bl_lt m
 have h2 : 2^(bl m + 1) ≤ 2^g := Nat.pow_le_pow_right (by decide) h
 rw [Nat.pow_succ] at h2
 have hu : m / 2^g = 0 := Nat.div_eq_of_lt (by omega)
 rw [rung_size, hu, szf_zero, mg_zero', mg_one, Nat.zero_add, Nat.zero_add, Nat.one_mul]
 rw [if_neg (by omega)]
theorem rung_big {g m : Nat} (h : g + 2099 ≤ bl m) : INF ≤ rung g m := by
 have hm : m ≠ 0 := by intro e; subst e; have : bl 0 = 0 := rfl; omega
 have hb : bl m = m.log2 + 1 := by unfold bl; rw [if_neg hm]
 have hk : kx g m = m.log2 - 52 := by unfold kx; omega
 have h1 := rhe_kx_lo (g := g) (V := m) (by omega)
 unfold rung INF
 have : 2046 ≤ kx g m - g := by omega
 have := Nat.mul_le_mul_right (2^52) this
 omega
theorem U_of_lt {s : Nat} (h : s < 2^63) : U s = (mg s : Nat) := by
 have e1 : sz s = s := Nat.mod_eq_of_lt h
 have e2 : ng s = false := by
  unfold ng
  have : s / 2^63 % 2 = 0 := by omega
  rw [this]; rfl
 unfold U
 rw [e1, e2]; rfl
theorem hold_round (m g tw : Nat) : hold m (-1074 - (g : Int)) tw (-1075) = cmp3 (2 * m) (tw * 2^g) := by
 unfold hold
 by_cases h : g = 0
 ·subst h
  rw [if_pos (by omega)]
  have : (-1074 - ((0 : Nat) : Int) - -1075).toNat = 1 := by omega
  rw [this, Nat.pow_one, Nat.pow_zero, Nat.mul_one, Nat.mul_comm]
 ·rw [if_neg (by omega)]
  obtain ⟨d, rfl⟩ : ∃ d, g = d + 1 := ⟨g - 1, by omega⟩
  have : (-1075 - (-1074 - ((d + 1 : Nat) : Int))).toNat = d := by omega
  rw [this, Nat.pow_succ]
  have e : tw * (2^d * 2) = 2 * (tw * 2^d) := by rw [← Nat.mul_assoc, Nat.mul_comm]
  rw [e]
  unfold cmp3
  generalize tw * 2^d = x
  by_cases h1 : m < x
  ·rw [if_pos h1, if_pos (by omega)]
  ·by_cases h2 : x < m
   ·rw [if_neg h1, if_pos h2, if_neg (by omega), if_pos (by omega)]
   ·rw [if_neg h1, if_neg h2, if_neg (by omega), if_neg (by omega)]
theorem szf_le {u : Nat} (h : bl u ≤ 2098) : szf u ≤ 2047 * 2^52 := by
 have h1 := szf_low (u := u)
 unfold szf
 have h2 : bl u - 53 ≤ 2045 := by omega
 generalize u / 2^(bl u - 53) = q at *
 generalize bl u - 53 = d at *
 have e : 2^52 = 4503599627370496 := by decide
 have e' : 2^53 = 9007199254740992 := by decide
 rw [e] at *
 rw [e'] at *
 omega
theorem round_j2 (s : Nat) (b : Bool) (hs : s < 2^63) (a0 a1 a2 a3 a5 : Int) : Ev (fun k => gnomonref10_Round.j2 k (s : Int) b a0 a1 a2 a3 9218868437227405312 a5) ((min (s + if b = true then 1 else 0) INF : Nat) : Int) := by
 have hI : INF = 9218868437227405312 := by unfold INF; omega
 have key : ∀ x : Nat, mn (x : Int) 9218868437227405312 = ((min x INF : Nat) : Int) := by
  intro x
  rw [hI, ← mn_nat]; rfl
 cases b
 ·refine Ev.step (f := fun _ => some (mn (s : Int) 9218868437227405312)) (fun k => by simp only [gnomonref10_Round.j2]; rw [if_neg (by decide)]) ?_
  rw [key, if_neg (by decide), Nat.add_zero]
  exact Ev.now _
 ·refine Ev.step (f := fun _ => some (mn (IntKind.u64.wrap ((s : Int) + 1)) 9218868437227405312)) (fun k => by simp only [gnomonref10_Round.j2]; rw [if_pos trivial]) ?_
  have : (s : Int) + 1 = ((s + 1 : Nat) : Int) := by omega
  rw [wu64 (by omega) (by omega), this, key, if_pos rfl]
  exact Ev.now _
theorem round10_ev (m g : Nat) (hg : g ≤ 1000000) (hm : bl m ≤ 100000) :
  Ev (fun k => gnomonref10_Round.f k 9223372036854775808 53 (-1074) 971 9218868437227405312 9221120237041090561 (dg m) (-1074 - (g : Int))) ((min (rung g m) INF : Nat) : Int) := by
 have hlen := dg_len_bits (bl_lt m) (show bl m ≤ 8796093022000 by omega)
 unfold gnomonref10_Round.f
 refine Ev.bind (bits_ev m (by omega)) ?_
 have et : wrap64 (((bl m : Nat) : Int) + (-1074 - (g : Int))) = ((bl m : Nat) : Int) + (-1074 - (g : Int)) := w64 (by omega) (by omega)
 by_cases h0 : m = 0
 ·subst h0
  have c : ((dg 0).length : Int) = 0 := by rw [dg_zero]; rfl
  simp only [if_pos c]
  refine Ev.step (f := fun _ => some 0) (fun k => by simp only [gnomonref10_Round.j0]; rw [if_pos trivial]) ?_
  rw [rung_zero]
  exact Ev.now _
 ·have c : ¬ ((dg m).length : Int) = 0 := by have := dg_len_zero (n := m); omega
  simp only [if_neg c, et]
  by_cases hlow : bl m < g
  ·have e : decide (((bl m : Nat) : Int) + (-1074 - (g : Int)) < -1074) = true := decide_eq_true (by omega)
   simp only [e]
   refine Ev.step (f := fun _ => some 0) (fun k => by simp only [gnomonref10_Round.j0]; rw [if_pos trivial]) ?_
   rw [rung_small hlow]
   exact Ev.now _
  ·have e : decide (((bl m : Nat) : Int) + (-1074 - (g : Int)) < -1074) = false := decide_eq_false (by omega)
   simp only [e]
   have w1 : wrap64 (971 + 53) = 1024 := by rw [w64 (by omega) (by omega)]; rfl
   by_cases htop : g + 2099 ≤ bl m
   ·have hb := rung_big htop
    refine Ev.step (f := fun _ => some 9218868437227405312) (fun k => ?_) ?_
    ·simp only [gnomonref10_Round.j0]
     rw [if_neg (by decide), w1, if_pos (by omega)]
    ·rw [Nat.min_eq_right hb]
     exact Ev.now _
   ·-- the units
    have hj1 : Ev (fun k => gnomonref10_Round.j1 k (dg m) (-1074 - (g : Int)) (dg (m / 2^g)) 9223372036854775808 53 (-1074) 971 9218868437227405312 9221120237041090561) ((min (rung g m) INF : Nat) : Int) := by
     have hub : bl (m / 2^g) ≤ 2098 := by
      obtain ⟨K, hK⟩ : ∃ K, K = 2098 := ⟨_, rfl⟩
      rw [← hK]
      apply bl_le_of_lt
      rw [Nat.div_lt_iff_lt_mul (Nat.two_pow_pos g), ← Nat.pow_add]
      exact Nat.lt_of_lt_of_le (bl_lt m) (Nat.pow_le_pow_right (by decide) (by omega))
     have hs := szf_le hub
     have hrs := rung_size g m
     generalize hse : szf (m / 2^g) = s at *
     have hsize := size_ev (m / 2^g) (by omega)
     rw [hse] at hsize
     have w2 : IntKind.u64.wrap ((s : Int) + 1) = ((s + 1 : Nat) : Int) := by rw [wu64 (by omega) (by omega)]; omega
     have w3 : wrap64 (-1074 - 1) = -1075 := by rw [w64 (by omega) (by omega)]; rfl
     have u1 := U_of_lt (show s < 2^63 by omega)
     have u2 := U_of_lt (show s + 1 < 2^63 by omega)
     have b1 := mg_bound s
     have b2 := mg_bound (s + 1)
     have b3 : mg s ≤ mg (s + 1) := mg_le (by omega)
     have hq : (s + 1) / 2^52 ≤ 2047 := by omega
     have hq2 : s / 2^52 ≤ 2047 := by omega
     have zs1 : Zs (U s) := Zs_of (k := 53 + s / 2^52) (by rw [u1, Int.natAbs_natCast]; exact b1) (by omega)
     have zs2 : Zs (U (s + 1)) := Zs_of (k := 53 + (s + 1) / 2^52) (by rw [u2, Int.natAbs_natCast]; exact b2) (by omega)
     have hpos : mg (s + 1) ≠ 0 := fun e => by have := mg_zero.1 e; omega
     have esum : U s + U (s + 1) = ((mg s + mg (s + 1) : Nat) : Int) := by rw [u1, u2]; omega
     have btw : mg s + mg (s + 1) < 2^(54 + (s + 1) / 2^52) := by
      rw [show 54 + (s + 1) / 2^52 = 53 + (s + 1) / 2^52 + 1 from by omega, Nat.pow_succ]; omega
     have zs3 : Zs (U s + U (s + 1)) := Zs_of (k := 54 + (s + 1) / 2^52) (by rw [esum, Int.natAbs_natCast]; exact btw) (by omega)
     have hadd := zadd_ev (U s) (U (s + 1)) zs1 zs2 zs3
     rw [esum] at hadd
     have hmk := zmk_ev false m (by omega) (m : Int) rfl (fun _ => (decide_eq_false (by omega)).symm)
     have hh := hold_ev m (mg s + mg (s + 1)) (-1074 - (g : Int)) (-1075) h0 (by omega) (by omega) (by have := bl_le_of_lt btw; omega) (by omega) (by omega) (by omega) (by omega)
     rw [hold_round] at hh
     refine Ev.step (f := fun k => (gnomonref07_Size.f k 9223372036854775808 53 (-1074) 971 9218868437227405312 9221120237041090561 (dg (m / 2^g))).bind fun t => (gnomonref07_Whole.f k 9223372036854775808 53 (-1074) 971 9218868437227405312 9221120237041090561 t).bind fun a => (gnomonref07_Whole.f k 9223372036854775808 53 (-1074) 971 9218868437227405312 9221120237041090561 (IntKind.u64.wrap (t + 1))).bind fun b => (gnomonref04_Add.f k a.1 a.2 b.1 b.2).bind fun c => (gnomonref04_Mk.f k false (dg m)).bind fun d => (gnomonref07_Hold.f k d.1 d.2 (-1074 - (g : Int)) c.1 c.2 (wrap64 (-1074 - 1))).bind fun h => if h > 0 then gnomonref10_Round.j2 k t true 9223372036854775808 53 (-1074) 971 9218868437227405312 9221120237041090561 else if h = 0 then gnomonref10_Round.j2 k t ((Int.tmod t 2) == 1) 9223372036854775808 53 (-1074) 971 9218868437227405312 9221120237041090561 else gnomonref10_Round.j2 k t false 9223372036854775808 53 (-1074) 971 9218868437227405312 9221120237041090561) (fun k => by simp only [gnomonref10_Round.j1]) ?_
     refine Ev.bind hsize ?_
     refine Ev.bind (whole_ev s (by omega)) ?_
     simp only [w2, w3]
     refine Ev.bind (whole_ev (s + 1) (by omega)) ?_
     refine Ev.bind hadd ?_
     refine Ev.bind hmk ?_
     refine Ev.bind hh ?_
     rw [hrs]
     generalize (mg s + mg (s + 1)) * 2^g = tw at *
     by_cases c1 : tw < 2 * m
     ·have : cmp3 (2 * m) tw > 0 := by rw [cmp3_gt c1]; omega
      simp only [if_pos this]
      rw [if_pos (Or.inl c1)]
      exact round_j2 s true (by omega) _ _ _ _ _
     ·by_cases c2 : 2 * m < tw
      ·have n1 : ¬ cmp3 (2 * m) tw > 0 := by rw [cmp3_lt c2]; omega
       have n2 : ¬ cmp3 (2 * m) tw = 0 := by rw [cmp3_lt c2]; omega
       simp only [if_neg n1, if_neg n2]
       rw [if_neg (by omega)]
       exact round_j2 s false (by omega) _ _ _ _ _
      ·have e0 : cmp3 (2 * m) tw = 0 := by unfold cmp3; rw [if_neg c2, if_neg c1]
       have n1 : ¬ cmp3 (2 * m) tw > 0 := by omega
       simp only [if_neg n1, if_pos e0]
       have hp : (Int.tmod (s : Int) 2 == 1) = decide (s % 2 = 1) := by
        rw [Int.tmod_eq_emod_of_nonneg (by omega)]
        by_cases h : s % 2 = 1
        ·rw [decide_eq_true h]; exact beq_iff_eq.2 (by omega)
        ·rw [decide_eq_false h]; exact beq_eq_false_iff_ne.2 (by omega)
       rw [hp]
       have := round_j2 s (decide (s % 2 = 1)) (by omega) 9223372036854775808 53 (-1074) 971 9221120237041090561
       by_cases h : s % 2 = 1
       ·rw [decide_eq_true h] at this ⊢
        rw [if_pos (Or.inr ⟨by omega, h⟩)]
        exact this
       ·rw [decide_eq_false h] at this ⊢
        rw [if_neg (by omega)]
        exact this
    by_cases hg0 : g = 0
    ·subst hg0
     rw [Nat.pow_zero, Nat.div_one] at hj1
     refine Ev.step (f := fun k => (gnomonref01_Shl.f k (dg m) ((0 : Nat) : Int)).bind fun t => gnomonref10_Round.j1 k (dg m) (-1074 - ((0 : Nat) : Int)) t 9223372036854775808 53 (-1074) 971 9218868437227405312 9221120237041090561) (fun k => ?_) ?_
     ·simp only [gnomonref10_Round.j0]
      rw [if_neg (by decide), w1, if_neg (by omega), if_pos (by omega), w64 (by omega) (by omega)]
      rfl
     ·have := shl_ev m 0 hlen (by omega)
      rw [Nat.pow_zero, Nat.mul_one] at this
      exact Ev.bind this hj1
    ·refine Ev.step (f := fun k => (gnomonref01_Shr.f k (dg m) (g : Int)).bind fun t => gnomonref10_Round.j1 k (dg m) (-1074 - (g : Int)) t 9223372036854775808 53 (-1074) 971 9218868437227405312 9221120237041090561) (fun k => ?_) ?_
     ·simp only [gnomonref10_Round.j0]
      have w4 : wrap64 (-1074 - (-1074 - (g : Int))) = (g : Int) := by rw [w64 (by omega) (by omega)]; omega
      rw [if_neg (by decide), w1, if_neg (by omega), if_neg (by omega), w4]
     ·exact Ev.bind (shr_ev m g hlen (by omega)) hj1
def rpat (g : Nat) (v : Int) : Int := ((min (rung g v.natAbs) INF : Nat) : Int) + if v < 0 then 9223372036854775808 else 0
theorem round19_ev (v : Int) (g : Nat) (hg : g ≤ 1000000) (hv : bl v.natAbs ≤ 100000) : Ev (fun k => gnomonref19_Round.f k (zn v) (zl v) (-1074 - (g : Int))) (rpat g v) := by
 have hd : gnomonref19_double.f = some (9223372036854775808, 53, -1074, 971, 9218868437227405312, 9221120237041090561) := by decide
 have hI : INF = 9218868437227405312 := by decide
 have hmin := Nat.min_le_right (rung g v.natAbs) INF
 unfold gnomonref19_Round.f
 simp only [hd, Option.bind_some]
 refine Ev.bind (round10_ev v.natAbs g hg hv) ?_
 unfold rpat zn
 by_cases h : v < 0
 ·simp only [decide_eq_true h, if_pos h, if_true]
  rw [wu64 (by omega) (by omega)]
  exact Ev.now _
 ·simp only [decide_eq_false h, if_neg h, Bool.false_eq_true, if_false, Int.add_zero]
  exact Ev.now _
end Go.Proofs.Ytbgmadijifefiaa.Ref
