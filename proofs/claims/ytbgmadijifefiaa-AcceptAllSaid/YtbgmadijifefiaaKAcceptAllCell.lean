/- Accept answers the same again. Plain Lean. No condition. The rounding cell of a pattern: a number is rounded to it just when it lies between the middles to its neighbours (an end belongs to the even one). Plain Lean. No condition. -/
import Derived.Test.YtbgmadijifefiaaKAcceptAllAskMono
import Derived.Test.YtbgmadijifefiaaKAcceptAllAgain
import Derived.Test.YtbgmadijifefiaaKAcceptAllRefE
section
namespace Go.Proofs.Ytbgmadijifefiaa.AccW
open Go.RowKit Go.Proofs.Ytbgmadijifefiaa.FW Go.Proofs.Ytbgmadijifefiaa.Eft Go.Proofs.Ytbgmadijifefiaa.EftLaw Go.Proofs.Ytbgmadijifefiaa.Again Fl
theorem order_nan_l {s c : Nat} (hs : INF < sz s) : (FloatKind.f64.format.order s c != some .eq) = true := by
 show (Ieee.double.order s c != some .eq) = true
 rw [ord_nan hs]; rfl
theorem order_nan_r {s c : Nat} (hs : INF < sz c) : (FloatKind.f64.format.order s c != some .eq) = true := by
 obtain ⟨a, b, h⟩ := read_nan hs
 show (Ieee.double.order s c != some .eq) = true
 unfold Ieee.Format.order
 rw [h]
 cases Ieee.Format.read Ieee.double s <;> rfl
theorem fit_det {x y : Nat} {i : Int} (h : FitR x y i true) (h' : FitR x y i false) : False := by
 rcases h with ⟨c1, c2, c3, c4, h⟩ | ⟨_, h⟩
 ·rcases h' with ⟨_, _, _, _, h'⟩ | ⟨h', _⟩
  ·exact form_det h h'
  ·exact h' ⟨c1, c2, c3, c4⟩
 ·cases h
theorem way_al {x y : Nat} {i : Int} {u d u' d' : Nat} (h : Way x y i u d) (h' : Way x y i u' d') : Al u u' ∧ Al d d' := by
 obtain ⟨L, m, u1, d1, a1, a2, a3, a4, a5, a6⟩ := h.out
 obtain ⟨L', m', u1', d1', b1, b2, b3, b4, b5, b6⟩ := h'.out
 have e1 := fop_al (by simp) (Al.refl _) (Al.refl _) a1 b1
 have e2 := fop_al (by simp) (Al.refl _) e1 a2 b2
 have e3 := fop_al (by simp) (Al.refl _) e2 a3 b3
 have e5 := fop_al (by simp) (Al.refl _) e2 a5 b5
 exact ⟨fop_al (by simp) (Al.refl _) e3 a4 b4, fop_al (by simp) (Al.refl _) e5 a6 b6⟩
theorem order_al {u d u' d' : Nat} (hu : Al u u') (hd : Al d d') : (FloatKind.f64.format.order u d != some .eq) = (FloatKind.f64.format.order u' d' != some .eq) := by
 rcases hu with rfl | ⟨h1, h2⟩
 ·rcases hd with rfl | ⟨h3, h4⟩
  ·rfl
  ·rw [order_nan_r h3, order_nan_r h4]
 ·rw [order_nan_l h1, order_nan_l h2]
theorem ask_det {x y r r' : Nat} {i : Int} {ok ok' : Bool} (h : AcceptR x y i r ok) (h' : AcceptR x y i r' ok') : r = r' ∧ ok = ok' := by
 rcases h with ⟨hf, rfl, rfl⟩ | ⟨hf, u, d, hw, h⟩
 ·rcases h' with ⟨_, rfl, rfl⟩ | ⟨hf', _⟩
  ·exact ⟨rfl, rfl⟩
  ·exact (fit_det hf' hf).elim
 ·rcases h' with ⟨hf', _⟩ | ⟨_, u', d', hw', h'⟩
  ·exact (fit_det hf hf').elim
  ·obtain ⟨eu, ed⟩ := way_al hw hw'
   have eo := order_al eu ed
   rcases h with ⟨hn, rfl, rfl⟩ | ⟨hn, rfl, rfl⟩
   ·rcases h' with ⟨_, rfl, rfl⟩ | ⟨hn', _⟩
    ·exact ⟨rfl, rfl⟩
    ·rw [hn, hn'] at eo; cases eo
   ·rcases h' with ⟨hn', _⟩ | ⟨_, rfl, rfl⟩
    ·rw [hn, hn'] at eo; cases eo
    ·refine ⟨?_, rfl⟩
     rcases eu with eu | ⟨h1, _⟩
     ·exact eu
     ·rw [order_nan_l h1] at hn; cases hn
end Go.Proofs.Ytbgmadijifefiaa.AccW
end
section
namespace Go.Proofs.Ytbgmadijifefiaa.Cell
open Go.Proofs.Ytbgmadijifefiaa.Ref Fl
theorem bl_lo {u : Nat} (h : 53 < bl u) : 2^52 * 2^(bl u - 53) ≤ u := by
 have hm : u ≠ 0 := by intro e; subst e; have : bl 0 = 0 := rfl; omega
 have hb : bl u = u.log2 + 1 := by unfold bl; rw [if_neg hm]
 have h1 := Nat.log2_self_le hm
 rw [← Nat.pow_add]
 have : 52 + (bl u - 53) = u.log2 := by omega
 rw [this]; exact h1
theorem mg_szf (u : Nat) : mg (szf u) ≤ u ∧ u < mg (szf u + 1) := by
 have h1 := szf_low (u := u)
 have hp := Nat.two_pow_pos (bl u - 53)
 have hq : bl u - 53 = 0 ∨ 2^52 ≤ u / 2^(bl u - 53) := by
  by_cases h : 53 < bl u
  ·right; rw [Nat.le_div_iff_mul_le hp]; exact bl_lo h
  ·left; omega
 have e1 := mg_make (k := bl u - 53) (m := u / 2^(bl u - 53)) (by omega) hq
 have e2 := mg_make (k := bl u - 53) (m := u / 2^(bl u - 53) + 1) (by omega) (hq.imp id (fun h => by omega))
 have d := Nat.div_add_mod u (2^(bl u - 53))
 have l := Nat.mod_lt u hp
 unfold szf
 rw [Nat.add_assoc, e1, e2, Nat.add_mul, Nat.one_mul]
 rw [Nat.mul_comm] at d
 omega
def InZ (V s : Nat) : Prop := if s % 2 = 0 then mg (s - 1) + mg s ≤ 2 * V ∧ 2 * V ≤ mg s + mg (s + 1) else mg (s - 1) + mg s < 2 * V ∧ 2 * V < mg s + mg (s + 1)
theorem rung0 (V : Nat) : rung 0 V = szf V + (if (mg (szf V) + mg (szf V + 1)) < 2 * V ∨ ((mg (szf V) + mg (szf V + 1)) = 2 * V ∧ szf V % 2 = 1) then 1 else 0) := by
 have h := rung_size 0 V
 rw [Nat.pow_zero, Nat.div_one, Nat.mul_one] at h
 exact h
theorem inz_of {V s : Nat} (hs : s ≠ 0) (h : rung 0 V = s) : InZ V s := by
 obtain ⟨h1, h2⟩ := mg_szf V
 rw [rung0] at h
 unfold InZ
 generalize szf V = t at *
 split at h
 ·rename_i hc
  obtain rfl : s = t + 1 := h.symm
  have e : t + 1 - 1 = t := by omega
  rw [e]
  have m1 := mg_lt (show t + 1 < t + 1 + 1 by omega)
  split <;> omega
 ·rename_i hc
  obtain rfl : s = t := by omega
  have m1 := mg_lt (show s - 1 < s by omega)
  split <;> omega
theorem inz_zero {V : Nat} (h : rung 0 V = 0) : 2 * V ≤ mg 0 + mg 1 := by
 obtain ⟨h1, h2⟩ := mg_szf V
 rw [rung0] at h
 generalize szf V = t at *
 split at h
 ·omega
 ·rename_i hc
  have e : t = 0 := by omega
  rw [e] at hc
  have e2 : mg (0 + 1) = mg 1 := rfl
  omega
theorem of_inz {V s : Nat} (hs : s ≠ 0) (h : InZ V s) : rung 0 V = s := by
 obtain ⟨t, ht⟩ : ∃ t, rung 0 V = t := ⟨_, rfl⟩
 rw [ht]
 rcases Nat.lt_trichotomy t s with hlt | heq | hgt
 ·exfalso
  have m1 : mg t ≤ mg (s - 1) := mg_le (by omega)
  have m2 : mg (t + 1) ≤ mg s := mg_le (by omega)
  by_cases t0 : t = 0
  ·subst t0
   have h2 := inz_zero ht
   by_cases s1 : s = 1
   ·subst s1
    unfold InZ at h
    rw [if_neg (by decide)] at h
    have : mg (1 - 1) = mg 0 := rfl
    omega
   ·have m3 := mg_lt (show 0 < s - 1 by omega)
    have e : mg (0 + 1) = mg 1 := rfl
    unfold InZ at h
    split at h <;> omega
  ·have h2 := inz_of t0 ht
   unfold InZ at h h2
   by_cases e : t + 1 = s
   ·subst e
    split at h <;> split at h2 <;> omega
   ·have m3 := mg_lt (show t < s - 1 by omega)
    split at h <;> split at h2 <;> omega
 ·exact heq
 ·exfalso
  have m1 : mg s ≤ mg (t - 1) := mg_le (by omega)
  have m2 : mg (s + 1) ≤ mg t := mg_le (by omega)
  have h2 := inz_of (by omega) ht
  unfold InZ at h h2
  by_cases e : s + 1 = t
  ·subst e
   split at h <;> split at h2 <;> omega
  ·have m3 := mg_lt (show s + 1 < t by omega)
   split at h <;> split at h2 <;> omega
end Go.Proofs.Ytbgmadijifefiaa.Cell
end
