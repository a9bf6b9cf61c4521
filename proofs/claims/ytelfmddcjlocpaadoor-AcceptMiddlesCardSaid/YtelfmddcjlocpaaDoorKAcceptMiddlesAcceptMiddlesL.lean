/- Half way between two numbers Accept is never sure, nor nearer to there than a quarter of its margin: the plain law. Plain Lean over the functions. Condition: words below 2^64. -/
import Derived.Test.YtelfmddcjlocpaaDoorKAcceptMiddlesAgain
import Derived.Test.YtelfmddcjlocpaaDoorKAcceptMiddlesAccC
import Derived.Test.YtelfmddcjlocpaaDoorKAcceptMiddlesPxM0
import Derived.Test.YtelfmddcjlocpaaDoorKAcceptMiddlesRp4
set_option linter.unusedVariables false
namespace Go.Proofs.YtelfmddcjlocpaaDoor.AcceptMiddlesL
open Go.RowKit Go.Proofs.YtelfmddcjlocpaaDoorW.PrintWords Go.Proofs.YtelfmddcjlocpaaDoorW.PrintMore Go.Proofs.YtelfmddcjlocpaaDoor.Num Go.Proofs.YtelfmddcjlocpaaDoor.PLib Go.Proofs.YtelfmddcjlocpaaDoor.Ref Go.Proofs.YtelfmddcjlocpaaDoor.GTh Go.Proofs.YtelfmddcjlocpaaDoor.Given Go.Proofs.YtelfmddcjlocpaaDoor.Rp1 Go.Proofs.YtelfmddcjlocpaaDoor.Rp2 Go.Proofs.YtelfmddcjlocpaaDoor.Rp3 Go.Proofs.YtelfmddcjlocpaaDoor.Rp4 Go.Proofs.YtelfmddcjlocpaaDoor.Rp5 Go.Proofs.YtelfmddcjlocpaaDoor.Rp7 Go.Proofs.YtelfmddcjlocpaaDoor.BinLaw Go.Proofs.YtelfmddcjlocpaaDoor.Fm8 Go.Proofs.YtelfmddcjlocpaaDoor.Rnd Go.Proofs.YtelfmddcjlocpaaDoor.InCell Go.Proofs.YtelfmddcjlocpaaDoor.AccW Go.Proofs.YtelfmddcjlocpaaDoor.SoundLaw Go.Proofs.YtelfmddcjlocpaaDoor.AccRL
open Fl (mg sz ng U fin INF U_natAbs)
theorem mg_le {s t : Nat} (h : s ≤ t) : mg s ≤ mg t := by rw [← nF_mg, ← nF_mg]; exact nF_le fmD h
theorem not_mid {W : Int} {n r s D : Nat} (h1 : InC (W * 2^n) (((2^n : Nat) : Int) + 1) r) (h2 : InC (W * 2^n) (((2^n : Nat) : Int) - 1) r) (hA : 2 * W.natAbs + D = high s) (hD : D * 2^n < high s) : False := by
 obtain ⟨a1, a2, a3, a4, a5⟩ := inc_nat h1 h2
 obtain ⟨q, hq⟩ : ∃ q, 2^n = q + 1 := ⟨2^n - 1, by have := Nat.two_pow_pos n; omega⟩
 rw [hq] at a4 a5 hD
 generalize hx : W.natAbs = A at *
 have e1 : A * (q + 1) = A * q + A := by rw [Nat.mul_add, Nat.mul_one]
 have e2 : D * (q + 1) = D * q + D := by rw [Nat.mul_add, Nat.mul_one]
 rw [e1] at a4 a5
 rw [e2] at hD
 have k1 := congrArg (· * q) hA
 simp only [Nat.add_mul, Nat.mul_assoc] at k1
 rcases Nat.lt_or_ge s (sz r) with c | c
 ·have l1 : high s ≤ low (sz r) := by
   unfold high low
   have := mg_le (show s ≤ sz r - 1 by omega)
   have := mg_le (show s + 1 ≤ sz r by omega)
   omega
  have l2 := Nat.mul_le_mul_right (q + 1 + 1) l1
  have e3 : high s * (q + 1 + 1) = high s * q + high s + high s := by rw [Nat.mul_add, Nat.mul_add, Nat.mul_one]
  rw [e3] at l2
  generalize A * q = x at *
  generalize D * q = y at *
  generalize high s * q = z at *
  omega
 ·have l1 : high (sz r) ≤ high s := by
   unfold high
   have := mg_le (show sz r ≤ s by omega)
   have := mg_le (show sz r + 1 ≤ s + 1 by omega)
   omega
  have l2 := Nat.mul_le_mul_right q l1
  rw [show q + 1 - 1 = q from rfl] at a5
  generalize A * q = x at *
  generalize D * q = y at *
  generalize high s * q = z at *
  omega
theorem pat_sz (neg : Bool) {s : Nat} (h : s < 9223372036854775808) : sz (pat fD neg s) = s ∧ ng (pat fD neg s) = neg := by
 unfold pat sz ng
 rw [sg_63]
 cases neg
 ·simp only [Bool.false_eq_true, if_false]
  exact ⟨by omega, by rw [beq_eq_false_iff_ne]; omega⟩
 ·simp only [if_true]
  exact ⟨by omega, by rw [beq_iff_eq]; omega⟩
theorem sv_add (neg : Bool) (a b : Nat) : sv neg a + sv neg b = sv neg (a + b) := by
 cases neg
 ·show (a : Int) + (b : Int) = ((a + b : Nat) : Int); omega
 ·show -(a : Int) + -(b : Int) = -((a + b : Nat) : Int); omega
theorem sv_sub (neg : Bool) (a b : Nat) (h : b ≤ a) : sv neg a - sv neg b = sv neg (a - b) := by
 cases neg
 ·show (a : Int) - (b : Int) = ((a - b : Nat) : Int); omega
 ·show -(a : Int) - -(b : Int) = -((a - b : Nat) : Int); omega
theorem no {b L : Nat} {i : Int} {r : Nat} {ok : Bool} {s D n : Nat} (h : AcceptR b L i r ok) (hn : (n : Int) = -i) (hA : 2 * (U b + U L).natAbs + D = high s) (hD : i ≤ 0 → D * 2^n < high s) : ok = false ∧ r = 0 := by
 cases ok
 ·exact ⟨rfl, not_sure h⟩
 ·obtain ⟨c1, c2, -⟩ := h.fit
  obtain ⟨s1, s2⟩ := sound_law h hn
  exact (not_mid s1 s2 hA (hD (by omega))).elim
theorem nF_pat (j q : Nat) (hq : q < 9007199254740992) (hj : j = 0 ∨ 4503599627370496 ≤ q) : nF fD (j * 4503599627370496 + q) = q * 2^j := by
 have := (nF_at fmD (j := j) (q := q) (by rw [hd_52]; omega) (by rw [hd_52]; exact hj)).1
 rw [hd_52] at this
 exact this
theorem ev_eq {α : Type} {o : Option α} {v : α} (h : o = some v) : Ev (fun _ => o) v := by rw [h]; exact Ev.now _
theorem law_ev (w : World) (b g : Nat) (i : Int) (hb : b < 18446744073709551616) : Ev (fun k => gnomonlaw25_AcceptMiddles.f k (b : Int) i (g : Int)) true := by
 have hs : Int.tmod (b : Int) 9223372036854775808 = ((sz b : Nat) : Int) := by
  rw [Int.tmod_eq_emod_of_nonneg (by omega)]
  unfold sz
  omega
 have hj : Int.tmod (g : Int) 1024 = ((g % 1024 : Nat) : Int) := by
  rw [Int.tmod_eq_emod_of_nonneg (by omega)]
  omega
 unfold gnomonlaw25_AcceptMiddles.f gnomonlaw25_awake.f
 generalize Int.tmod (b : Int) 9223372036854775808 = S at *
 generalize Int.tmod (g : Int) 1024 = J at *
 subst hs hj
 refine Ev.bind (Ev.now true) (Ev.congr (fun k => if_pos rfl) ?_)
 obtain ⟨s, hsz⟩ : ∃ s, s = sz b := ⟨_, rfl⟩
 rw [← hsz]
 by_cases c1 : s < 558446353793941504
 ·exact Ev.congr (fun k => if_pos (by omega)) (Ev.now _)
 refine Ev.congr (fun k => if_neg (by omega)) ?_
 by_cases c2 : s > 8655918483806093312
 ·exact Ev.congr (fun k => if_pos (by omega)) (Ev.now _)
 refine Ev.congr (fun k => if_neg (by omega)) ?_
 by_cases c3 : i < -100
 ·exact Ev.congr (fun k => if_pos c3) (Ev.now _)
 refine Ev.congr (fun k => if_neg c3) ?_
 by_cases c4 : i > -56
 ·exact Ev.congr (fun k => if_pos c4) (Ev.now _)
 refine Ev.congr (fun k => if_neg c4) ?_
 have hbp : pat fD (ng b) s = b := by rw [hsz]; exact pat_w hb
 have hinf : s < fD.inf := by rw [inf_v]; omega
 have hsg : s < fD.sg := by rw [sg_63]; omega
 obtain ⟨neg, hneg⟩ : ∃ neg, neg = ng b := ⟨_, rfl⟩
 rw [← hneg] at hbp
 obtain ⟨c, hc⟩ : ∃ c, dF fD s = c + 54 := ⟨s / 4503599627370496 - 55, by unfold dF; rw [hd_52]; omega⟩
 have hmg : 4503599627370496 ≤ mgF fD s := by unfold mgF; rw [hd_52, if_neg (by omega)]; omega
 have hcu : c ≤ 1990 := by
  have : dF fD s = s / 4503599627370496 - 1 := by unfold dF; rw [hd_52]
  omega
 have hnx := nF_next fmD s
 rw [hc] at hnx
 obtain ⟨B, hB⟩ : ∃ B, B = 2^(c + 54) := ⟨_, rfl⟩
 rw [← hB] at hnx
 have hB0 : 0 < B := by rw [hB]; exact Nat.two_pow_pos _
 have dm : Dy (-1075) neg (mdm fD s) (mdx fD s) (sv neg (nF fD s + nF fD (s + 1))) := by
  refine ⟨mid_dk fmD neg hsg, (mdx_rng fmD hsg).2.1, ?_⟩
  rw [mid_vs fmD neg s (-1075) (by decide)]
  have : (fD.low - 1 - -1075).toNat = 0 := by decide
  rw [this, Nat.pow_zero, Nat.mul_one]
  rfl
 have em := mid_pat fmD neg hinf
 rw [hbp] at em
 obtain ⟨n2, m2, x2, d2, e2⟩ := value_pat fmD neg hinf (E := -1075) (by decide) (by decide)
 rw [hbp] at e2
 have e21 : (fD.low - -1075).toNat = 1 := by decide
 rw [e21, Nat.pow_one] at d2
 have b1 := bl_nF hsg
 have b2 : bl (nF fD (s + 1)) ≤ 2101 := bl_nF (by rw [sg_63]; omega)
 obtain ⟨n3, m3, x3, d3, e3⟩ := sub_dy dm d2 (by decide) (by decide) (by rw [sv_abs]; exact Nat.le_trans (bl_add b1 b2) (by decide)) (by rw [sv_abs, Nat.mul_two]; exact Nat.le_trans (bl_add b1 b1) (by decide))
 rw [sv_sub neg _ _ (by rw [hnx]; omega), show nF fD s + nF fD (s + 1) - nF fD s * 2 = B by rw [hnx]; omega] at d3
 have nr := near_dy d3 (K := 1) (by decide)
 obtain ⟨t, ht⟩ : ∃ t, t = (c + 1) * 4503599627370496 + 4503599627370496 := ⟨_, rfl⟩
 have hp54 : B = 4 * (4503599627370496 * 2^c) := by rw [hB, Nat.pow_add, Nat.mul_comm]; omega
 obtain ⟨P, hP⟩ : ∃ P, P = 2^c := ⟨_, rfl⟩
 have hPp : 0 < P := by rw [hP]; exact Nat.two_pow_pos c
 have nt : nF fD t = 4503599627370496 * (2 * P) := by
  have := nF_pat (c + 1) 4503599627370496 (by decide) (.inr (Nat.le_refl _))
  rw [ht, this, Nat.pow_succ, ← hP, Nat.mul_comm P 2]
 have tinf : t ≤ fD.inf := by rw [inf_v]; omega
 have hV : (sv neg B).natAbs = nF fD t * 2^1 := by rw [sv_abs, nt, hp54, ← hP]; omega
 have v0 : sv neg B ≠ 0 := by
  intro e
  rw [e, nt] at hV
  have : (0 : Int).natAbs = 0 := rfl
  omega
 have hsgn : decide (sv neg B < 0) = neg := by
  cases neg
  ·exact decide_eq_false (by show ¬ ((B : Nat) : Int) < 0; omega)
  ·exact decide_eq_true (by show -((B : Nat) : Int) < 0; omega)
 have hpv : Rp4.pv fD 1 (sv neg B) = pat fD neg t := by
  unfold Rp4.pv
  rw [if_neg v0, hsgn, hV, rsz_self fmD tinf]
 rw [hpv] at nr
 obtain ⟨j, hj'⟩ : ∃ j, j = g % 1024 := ⟨_, rfl⟩
 rw [← hj']
 have hjl : j < 1024 := by omega
 have tlt : t < 9223372036854775808 := by have := inf_v; omega
 have hw : IntKind.u64.wrap (((pat fD neg t : Nat) : Int) - ((j : Nat) : Int)) = ((pat fD neg (t - j) : Nat) : Int) := by
  unfold pat
  rw [sg_63]
  cases neg
  ·simp only [Bool.false_eq_true, if_false]; rw [wu64 (by omega) (by omega)]; omega
  ·simp only [if_true]; rw [wu64 (by omega) (by omega)]; omega
 have plt : ∀ u, u ≤ t → pat fD neg u < 18446744073709551616 := by
  intro u hu
  unfold pat
  rw [sg_63]
  split <;> omega
 obtain ⟨r1, k1, f1, q1⟩ := ask_some w (b : Int) ((pat fD neg t : Nat) : Int) i (by omega) (by have := plt t (Nat.le_refl _); omega)
 obtain ⟨r2, k2, f2, q2⟩ := ask_some w (b : Int) ((pat fD neg (t - j) : Nat) : Int) i (by omega) (by have := plt (t - j) (by omega); omega)
 rw [Int.toNat_natCast, Int.toNat_natCast] at q1 q2
 obtain ⟨n, hn⟩ : ∃ n : Nat, (n : Int) = -i := ⟨(-i).toNat, by omega⟩
 have hUb : U b = sv neg (nF fD s) := by rw [U_sv, ← hsz, ← hneg]
 have hU : ∀ u, u ≤ t → U (pat fD neg u) = sv neg (nF fD u) := by
  intro u hu
  obtain ⟨x1, x2⟩ := pat_sz neg (s := u) (by omega)
  rw [U_sv, x1, x2]
 have hh : high s = 2 * nF fD s + 4 * (4503599627370496 * P) := by
  unfold high
  rw [← nF_mg, ← nF_mg, hnx, hp54, ← hP]
  omega
 have hns : 4503599627370496 * (4 * (4503599627370496 * P)) ≤ nF fD s := by
  have : nF fD s = mgF fD s * B := by unfold nF; rw [hc, hB]
  rw [this, hp54, ← hP]
  have := Nat.mul_le_mul_right (4 * (4503599627370496 * P)) hmg
  omega
 have first := no (s := s) (D := 0) q1 hn (by rw [hUb, hU t (Nat.le_refl _), sv_add, sv_abs, nt, hh]; omega) (fun _ => by rw [Nat.zero_mul, hh]; omega)
 obtain ⟨rfl, rfl⟩ := first
 have nj : nF fD (t - j) + j * P = nF fD t := by
  by_cases z : j = 0
  ·rw [z, Nat.zero_mul]; rfl
  ·have := nF_pat c (9007199254740992 - j) (by omega) (.inr (by omega))
   rw [← hP] at this
   rw [show t - j = c * 4503599627370496 + (9007199254740992 - j) by omega, this, nt, Nat.sub_mul]
   have := Nat.mul_le_mul_right P (show j ≤ 9007199254740992 by omega)
   omega
 refine Ev.bind em (Ev.bind e2 (Ev.bind e3 (Ev.bind nr ?_)))
 refine Ev.congr (fun k => if_pos rfl) (Ev.congr (fun k => if_pos rfl) (Ev.congr (fun k => if_pos rfl) (Ev.congr (fun k => if_pos rfl) ?_)))
 refine Ev.bind (ev_eq f1) (Ev.congr (fun k => if_neg (by decide)) (Ev.congr (fun k => if_pos rfl) ?_))
 rw [hw]
 refine Ev.bind (ev_eq f2) ?_
 by_cases c5 : i < -92
 ·exact Ev.congr (fun k => if_pos c5) (Ev.now _)
 refine Ev.congr (fun k => if_neg c5) ?_
 have hPj : j * P ≤ 1023 * P := Nat.mul_le_mul_right P (by omega)
 obtain ⟨rfl, rfl⟩ := no (s := s) (D := 2 * (j * P)) q2 hn (by rw [hUb, hU (t - j) (by omega), sv_add, sv_abs, hh]; omega) (fun _ => by
  have n1 : n ≤ 92 := by omega
  have n2 := Nat.pow_le_pow_right (n := 2) (by decide) n1
  have n3 : (2 : Nat)^92 = 4951760157141521099596496896 := by decide +kernel
  rw [n3] at n2
  have n4 := Nat.mul_le_mul (show 2 * (j * P) ≤ 2 * (1023 * P) by omega) n2
  rw [hh]
  omega)
 exact Ev.congr (fun k => if_neg (by decide)) (Ev.now _)
theorem law_row (w : World) (a0 a1 a2 : Int) (w0 : (Lit.int .u64 a0).wf = true) (w1 : (Lit.int .i64 a1).wf = true) (w2 : (Lit.int .u64 a2).wf = true) : Ev (fun k => gnomonlaw25_AcceptMiddles.f k a0 a1 a2) true := by
 have e1 : IntKind.u64.min = 0 := rfl
 have e2 : IntKind.u64.max = 18446744073709551615 := rfl
 have h0 : IntKind.u64.min ≤ a0 ∧ a0 ≤ IntKind.u64.max := by simpa [Lit.wf] using w0
 have h1 : IntKind.u64.min ≤ a2 ∧ a2 ≤ IntKind.u64.max := by simpa [Lit.wf] using w2
 have q := law_ev w a0.toNat a2.toNat a1 (by omega)
 rw [show ((a0.toNat : Nat) : Int) = a0 by omega, show ((a2.toNat : Nat) : Int) = a2 by omega] at q
 exact q
end Go.Proofs.YtelfmddcjlocpaaDoor.AcceptMiddlesL
