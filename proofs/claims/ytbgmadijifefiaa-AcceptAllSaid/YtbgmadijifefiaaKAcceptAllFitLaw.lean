/- What the reference's Fit answers: yes just of a pair in its form, of middling size, at an exponent from -100 to -56; and that Accept's own test says the same. Plain Lean. No condition. -/
import Derived.Test.YtbgmadijifefiaaKAcceptAllSumsLaw
import Derived.Test.YtbgmadijifefiaaKAcceptAllAskMono
import Derived.Test.YtbgmadijifefiaaKAcceptAllPLibx15
namespace Go.Proofs.Ytbgmadijifefiaa.FitLaw
open Go.RowKit Go.Proofs.YtbgmadijifefiaaW.PrintWords Go.Proofs.YtbgmadijifefiaaW.PrintMore Go.Proofs.Ytbgmadijifefiaa.Num Go.Proofs.Ytbgmadijifefiaa.PLib Go.Proofs.Ytbgmadijifefiaa.FW Go.Proofs.Ytbgmadijifefiaa.Eft Go.Proofs.Ytbgmadijifefiaa.EftLaw Go.Proofs.Ytbgmadijifefiaa.AccW Go.Proofs.Ytbgmadijifefiaa.Ref Go.Proofs.Ytbgmadijifefiaa.SumsLaw Fl
def FitP (x y : Nat) (i : Int) : Prop := -100 ≤ i ∧ i ≤ -56 ∧ fin x ∧ fin y ∧ 553942754166571008 ≤ sz x ∧ sz x ≤ 8660422083433463808 ∧ (x : Int) = rpat 0 (U x + U y)
theorem pow_m900 : gnomonref19_Pow.f (-900) = some 553942754166571008 := by
 unfold gnomonref19_Pow.f wrap64
 rw [IntKind.wrap_u64, IntKind.wrap_u64]
 decide
theorem pow_p900 : gnomonref19_Pow.f 900 = some 8660422083433463808 := by
 unfold gnomonref19_Pow.f wrap64
 rw [IntKind.wrap_u64, IntKind.wrap_u64]
 decide
theorem finite_at (x : Nat) : ∃ b : Bool, gnomonref19_Finite.f (x : Int) = some b ∧ (b = true ↔ fin x) := by
 have hI : INF = 9218868437227405312 := by decide
 refine ⟨decide (((sz x : Nat) : Int) < 9218868437227405312), ?_, ?_⟩
 ·unfold gnomonref19_Finite.f gnomonref19_Size.f
  rw [Option.bind_some, sz_int]
 ·rw [decide_eq_true_iff]
  unfold fin
  omega
theorem size_at (x : Nat) : gnomonref19_Size.f (x : Int) = some ((sz x : Nat) : Int) := by unfold gnomonref19_Size.f; rw [sz_int]
theorem j0_no (x y : Int) : Ev (fun k => gnomonref25_Fit.j0 k x y true) false := Ev.step (f := fun _ => some false) (fun k => by simp only [gnomonref25_Fit.j0]; rw [if_pos trivial]) (Ev.now _)
theorem j1_no (x y : Int) : Ev (fun k => gnomonref25_Fit.j1 k x y true) false := Ev.step (f := fun _ => some false) (fun k => by simp only [gnomonref25_Fit.j1]; rw [if_pos trivial]) (Ev.now _)
theorem sum_bl {x y : Nat} (fx : fin x) (fy : fin y) : Zs (U x) ∧ Zs (U y) ∧ Zs (U x + U y) ∧ bl (U x + U y).natAbs ≤ 100000 := by
 have a := U_top fx
 have b := U_top fy
 obtain ⟨K, hK⟩ : ∃ K, K = 53 + TE + 1 := ⟨_, rfl⟩
 have hT := TE_eq
 have ht := top_T
 have hT0 := T0_pos
 have hlt : (U x + U y).natAbs < 2^K := by
  rw [hK, Nat.pow_succ, Nat.pow_add]
  have e : 2^53 * 2^TE = 2^53 * T0 := rfl
  rw [e]
  omega
 have h2 := bl_le_of_lt hlt
 exact ⟨Zs_top0 a, Zs_top0 b, Zs_of hlt (by omega), by omega⟩
theorem fit_core (x y : Nat) (i : Int) (s lo hi : Int) (b1 b2 p : Bool) (hl : gnomonref19_Pow.f (-900) = some lo) (hh : gnomonref19_Pow.f 900 = some hi) (hs : gnomonref19_Size.f (x : Int) = some s) (h1 : gnomonref19_Finite.f (x : Int) = some b1) (h2 : gnomonref19_Finite.f (y : Int) = some b2)
  (hp : b1 = true → b2 = true → Ev (fun k => (gnomonref25_Sum.f k (x : Int) (y : Int)).bind fun bt => ((gnomonref19_Round.f k bt.1 bt.2 (-1074)).bind fun t => some ((x : Int) == t))) p) :
  ∃ c : Bool, Ev (fun k => gnomonref25_Fit.f k (x : Int) (y : Int) i) c ∧ (c = true ↔ -100 ≤ i ∧ i ≤ -56 ∧ b1 = true ∧ b2 = true ∧ lo ≤ s ∧ s ≤ hi ∧ p = true) := by
 unfold gnomonref25_Fit.f
 by_cases c1 : i < -100
 ·simp only [if_pos c1]
  exact ⟨false, j0_no _ _, iff_of_false (by decide) (fun h => by have := h.1; omega)⟩
 simp only [if_neg c1]
 by_cases c2 : i > -56
 ·simp only [if_pos c2]
  exact ⟨false, j0_no _ _, iff_of_false (by decide) (fun h => by have := h.2.1; omega)⟩
 simp only [if_neg c2, h1, h2, Option.bind_some]
 cases b1 with
 | false =>
  simp only [Bool.false_eq_true, if_false]
  exact ⟨false, j0_no _ _, iff_of_false (by decide) (fun h => by cases h.2.2.1)⟩
 | true =>
 cases b2 with
 | false =>
  simp only [if_true, Bool.not_false]
  exact ⟨false, j0_no _ _, iff_of_false (by decide) (fun h => by cases h.2.2.2.1)⟩
 | true =>
 simp only [if_true, Bool.not_true]
 have step := fun (r : Bool) => Ev.step (g := fun k => gnomonref25_Fit.j0 k (x : Int) (y : Int) false) (r := r)
  (f := fun k => (gnomonref19_Size.f (x : Int)).bind fun t616 => ((gnomonref19_Pow.f (-900)).bind fun t617 => (if t616 < t617 then (gnomonref25_Fit.j1 k (x : Int) (y : Int) true) else ((gnomonref19_Pow.f 900).bind fun t618 => (gnomonref25_Fit.j1 k (x : Int) (y : Int) (decide (t616 > t618)))))))
  (fun k => by simp only [gnomonref25_Fit.j0]; rw [if_neg (by decide)])
 by_cases c3 : s < lo
 ·refine ⟨false, step _ ?_, iff_of_false (by decide) (fun h => by have := h.2.2.2.2.1; omega)⟩
  simp only [hs, hl, Option.bind_some, if_pos c3]
  exact j1_no _ _
 ·by_cases c4 : s > hi
  ·refine ⟨false, step _ ?_, iff_of_false (by decide) (fun h => by have := h.2.2.2.2.2.1; omega)⟩
   simp only [hs, hl, hh, Option.bind_some, if_neg c3, decide_eq_true c4]
   exact j1_no _ _
  ·refine ⟨p, step _ ?_, ?_⟩
   ·simp only [hs, hl, hh, Option.bind_some, if_neg c3, decide_eq_false c4]
    exact Ev.step (f := fun k => (gnomonref25_Sum.f k (x : Int) (y : Int)).bind fun bt => ((gnomonref19_Round.f k bt.1 bt.2 (-1074)).bind fun t => some ((x : Int) == t))) (fun k => by simp only [gnomonref25_Fit.j1]; rw [if_neg (by decide)]) (hp rfl rfl)
   ·exact ⟨fun h => ⟨by omega, by omega, trivial, trivial, by omega, by omega, h⟩, fun h => h.2.2.2.2.2.2⟩
theorem fit_ev (x y : Nat) (i : Int) (hx : x < 18446744073709551616) (hy : y < 18446744073709551616) : ∃ c : Bool, Ev (fun k => gnomonref25_Fit.f k (x : Int) (y : Int) i) c ∧ (c = true ↔ FitP x y i) := by
 obtain ⟨b1, h1, f1⟩ := finite_at x
 obtain ⟨b2, h2, f2⟩ := finite_at y
 obtain ⟨c, hc, hi⟩ := fit_core x y i ((sz x : Nat) : Int) _ _ b1 b2 ((x : Int) == rpat 0 (U x + U y)) pow_m900 pow_p900 (size_at x) h1 h2 (fun t1 t2 => by
  obtain ⟨zx, zy, zxy, hb⟩ := sum_bl (f1.1 t1) (f2.1 t2)
  have hs : Ev (fun k => gnomonref25_Sum.f k (x : Int) (y : Int)) (zn (U x + U y), zl (U x + U y)) := by
   unfold gnomonref25_Sum.f
   exact Ev.bind (units_ev x hx) (Ev.bind (units_ev y hy) (pair_some (zadd_ev _ _ zx zy zxy)))
  have hr := round19_ev (U x + U y) 0 (by decide) hb
  have e : (-1074 - ((0 : Nat) : Int)) = -1074 := rfl
  rw [e] at hr
  exact Ev.bind hs (Ev.bind hr (Ev.now _)))
 refine ⟨c, hc, ?_⟩
 rw [hi, f1, f2, beq_iff_eq]
 unfold FitP
 constructor
 ·rintro ⟨q1, q2, q3, q4, q5, q6, q7⟩
  exact ⟨q1, q2, q3, q4, by omega, by omega, q7⟩
 ·rintro ⟨q1, q2, q3, q4, q5, q6, q7⟩
  exact ⟨q1, q2, q3, q4, by omega, by omega, q7⟩
theorem rpat_of {x : Nat} {v : Int} (hx : x < 18446744073709551616) (fx : fin x) (h0 : U x ≠ 0) (h : rnI 0 v = U x) : (x : Int) = rpat 0 v := by
 have h1 := mg_rung 0 v.natAbs
 rw [Nat.pow_zero, Nat.mul_one, ← rnI_natAbs, h, U_natAbs] at h1
 have hr := mg_inj h1
 unfold rpat
 rw [hr, Nat.min_eq_left (Nat.le_of_lt fx)]
 have hw := ng_sz hx
 have hs : (v < 0) ↔ (U x < 0) := by
  rw [← h]
  unfold rnI
  constructor
  ·intro hv
   rw [if_pos hv]
   rw [← h] at h0
   unfold rnI at h0
   rw [if_pos hv] at h0
   omega
  ·intro hv
   by_cases c : v < 0
   ·exact c
   ·rw [if_neg c] at hv; omega
 by_cases hv : v < 0
 ·rw [if_pos hv]
  have hn : ng x = true := by
   have := hs.1 hv
   unfold U at this
   split at this
   ·assumption
   ·omega
  rw [hn, if_pos rfl] at hw
  omega
 ·rw [if_neg hv]
  have hn : ng x = false := by
   have h3 : ¬ U x < 0 := fun c => hv (hs.2 c)
   unfold U at h3 h0
   split at h3
   ·rename_i hc; rw [if_pos hc] at h0; omega
   ·rename_i hc; simpa using hc
  rw [hn, if_neg (by decide)] at hw
  omega
theorem of_rpat {x : Nat} {v : Int} (fx : fin x) (h : (x : Int) = rpat 0 v) : rnI 0 v = U x := by
 unfold rpat at h
 have hI : INF = 9218868437227405312 := by decide
 have hm := Nat.min_le_right (rung 0 v.natAbs) INF
 have hfx : sz x < INF := fx
 have hsz : sz x = min (rung 0 v.natAbs) INF ∧ (ng x = true ↔ v < 0) := by
  unfold sz ng
  by_cases hv : v < 0
  ·rw [if_pos hv] at h
   refine ⟨by omega, iff_of_true ?_ hv⟩
   have : x / 2^63 % 2 = 1 := by omega
   rw [this]; rfl
  ·rw [if_neg hv] at h
   refine ⟨by omega, iff_of_false ?_ hv⟩
   have : x / 2^63 % 2 = 0 := by omega
   rw [this]; decide
 have hr : rung 0 v.natAbs = sz x := by omega
 have h1 := mg_rung 0 v.natAbs
 rw [Nat.pow_zero, Nat.mul_one, hr] at h1
 unfold rnI U
 rw [← h1]
 by_cases hv : v < 0
 ·rw [if_pos hv, if_pos (hsz.2.2 hv)]
 ·rw [if_neg hv, if_neg (fun c => hv (hsz.2.1 c))]
theorem fit_sure {x y r : Nat} {i : Int} (hx : x < 18446744073709551616) (h : AcceptR x y i r true) : FitP x y i := by
 obtain ⟨c1, c2, h1, h2, hf, d, hw, ho⟩ := h.fit
 obtain ⟨fx, fy, hs⟩ := form_law hf h2
 have hb := big900 h1
 refine ⟨c1, c2, fx, fy, h1, h2, rpat_of hx fx ?_ hs⟩
 intro e
 rw [e] at hb
 exact absurd hb (by decide)
theorem fit_not {x y : Nat} {i : Int} (h : FitP x y i) (h' : FitR x y i false) : False := by
 obtain ⟨c1, c2, fx, fy, h1, h2, hp⟩ := h
 have hs := of_rpat fx hp
 have hsm := small_of hs
 obtain ⟨_, bx⟩ := atMost_995 (a := x) (by omega)
 have hT := T0_pos
 rcases h' with ⟨_, _, _, _, h'⟩ | ⟨h', _⟩
 ·rcases h' with ⟨_, _, t, ht, he⟩ | ⟨h', _⟩
  ·have it := fop_add ht fx fy (le_top0 (m := 2^25) (by omega) (by decide))
   have v := val0 it
   rw [hs] at v
   have e := (eq_fin it.fin fx).symm.trans he.symm
   exact absurd v (of_decide_eq_false e)
  ·exact h' ⟨fx, fy⟩
 ·exact h' ⟨c1, c2, h1, h2⟩
end Go.Proofs.Ytbgmadijifefiaa.FitLaw
