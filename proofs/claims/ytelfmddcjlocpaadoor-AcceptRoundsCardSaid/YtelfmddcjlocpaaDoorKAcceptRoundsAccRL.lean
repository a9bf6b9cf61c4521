/- Accept's sureness told in layer 8's words of sizes and cells. Plain lemmas. Conditions: binary64. -/
import Derived.Test.YtelfmddcjlocpaaDoorKAcceptRoundsRp7
import Derived.Test.YtelfmddcjlocpaaDoorKAcceptRoundsSoundLaw
set_option linter.unusedVariables false
namespace Go.Proofs.YtelfmddcjlocpaaDoor.AccRL
open Go.RowKit Go.Proofs.YtelfmddcjlocpaaDoorW.PrintWords Go.Proofs.YtelfmddcjlocpaaDoorW.PrintMore Go.Proofs.YtelfmddcjlocpaaDoor.Num Go.Proofs.YtelfmddcjlocpaaDoor.PLib Go.Proofs.YtelfmddcjlocpaaDoor.Ref Go.Proofs.YtelfmddcjlocpaaDoor.GTh Go.Proofs.YtelfmddcjlocpaaDoor.Given Go.Proofs.YtelfmddcjlocpaaDoor.Rp1 Go.Proofs.YtelfmddcjlocpaaDoor.Rp2 Go.Proofs.YtelfmddcjlocpaaDoor.Rp3 Go.Proofs.YtelfmddcjlocpaaDoor.Rp4 Go.Proofs.YtelfmddcjlocpaaDoor.Rp5 Go.Proofs.YtelfmddcjlocpaaDoor.Rp7 Go.Proofs.YtelfmddcjlocpaaDoor.BinLaw Go.Proofs.YtelfmddcjlocpaaDoor.Fm8 Go.Proofs.YtelfmddcjlocpaaDoor.Rnd Go.Proofs.YtelfmddcjlocpaaDoor.InCell Go.Proofs.YtelfmddcjlocpaaDoor.AccW Go.Proofs.YtelfmddcjlocpaaDoor.SoundLaw
open Fl (mg sz ng U fin INF U_natAbs)
theorem fmD : Fm 64 fD := .inr ⟨rfl, rfl⟩
theorem hd_52 : hdF fD = 4503599627370496 := by decide
theorem sg_63 : fD.sg = 9223372036854775808 := rfl
theorem inf_v : fD.inf = 9218868437227405312 := rfl
theorem INF_v : INF = 9218868437227405312 := by decide
theorem nF_mg (s : Nat) : nF fD s = mg s := by
 unfold nF mgF dF mg
 rw [hd_52]
 by_cases c : s < 2^52
 ·have e : s / 4503599627370496 = 0 := by omega
  rw [if_pos c, e, if_pos rfl, show s % 4503599627370496 = s by omega]
  simp
 ·rw [if_neg c, if_neg (by omega)]
theorem low_v : fD.low = -1074 := rfl
theorem sz_lt (x : Nat) : sz x < fD.sg := Nat.mod_lt _ (by decide)
theorem pat_w {x : Nat} (h : x < 18446744073709551616) : pat fD (ng x) (sz x) = x := by
 unfold pat ng sz
 rw [sg_63]
 by_cases c : (x / 2^63 % 2 == 1) = true
 ·rw [if_pos c]
  have := beq_iff_eq.1 c
  omega
 ·rw [if_neg c]
  have : ¬ x / 2^63 % 2 = 1 := fun e => c (beq_iff_eq.2 e)
  omega
theorem U_sv (x : Nat) : U x = sv (ng x) (nF fD (sz x)) := by unfold U sv; rw [nF_mg]
theorem fin_lt {x : Nat} (h : fin x) : sz x < fD.inf := by
 have : sz x < INF := h
 rw [INF_v] at this; exact this
theorem bl_nF {s : Nat} (hs : s < fD.sg) : bl (nF fD s) ≤ 2101 := by
 have := dF_le fmD hs
 by_cases c : mgF fD s = 0
 ·unfold nF; rw [c, Nat.zero_mul]; decide
 ·unfold nF
  rw [bl_mul _ _ c]
  have : bl (mgF fD s) ≤ 53 := bl_le_of_lt (mg_lt fmD s)
  omega
theorem bl_U (x : Nat) : bl (U x).natAbs ≤ 2101 := by rw [U_sv, sv_abs]; exact bl_nF (sz_lt x)
theorem value_fl {x : Nat} (hx : x < 18446744073709551616) (h : fin x) : ∃ n m y, Dy (-1074) n m y (U x) ∧ Ev (fun k => binary_Value.f k 64 ((x : Nat) : Int)) (n, lb m, y, 0) := by
 obtain ⟨n, m, y, d, e⟩ := value_pat fmD (ng x) (fin_lt h) (E := -1074) (by decide) (by decide)
 rw [pat_w hx] at e
 refine ⟨n, m, y, ?_, e⟩
 rw [U_sv]
 have : (fD.low - -1074).toNat = 0 := by decide
 rw [this, Nat.pow_zero, Nat.mul_one] at d
 exact d
theorem near_dy {E : Int} {n : Bool} {m : Nat} {x V : Int} (h : Dy E n m x V) {K : Nat} (hE : E = -1074 - (K : Int)) : Ev (fun k => round_Nearest.f k 64 n (lb m) x) (((Rp4.pv fD K V : Nat) : Int), 0) := by
 have e := nearest_ev fmD h.dk h.le (show E ≤ fD.low by rw [low_v]; omega)
 rw [rnd_pv fD h.dk, h.va, show (fD.low - E).toNat = K by rw [low_v]; omega] at e
 exact e
theorem Dy.away {E : Int} {n : Bool} {m : Nat} {x V : Int} (h : Dy E n m x V) : Dy E false m x ((V.natAbs : Nat) : Int) := by
 refine ⟨⟨h.dk.lim, fun _ => ⟨rfl, ?_⟩, h.dk.odd, h.dk.low, h.dk.high⟩, h.le, ?_⟩
 ·exact (h.dk.zero (by assumption)).2
 ·rw [h.abs]; rfl
theorem mid_bounds {A q lo hi V : Nat} (hq : 1 ≤ q) (h1 : lo * (q + 1 + 1) ≤ 2 * (A * (q + 1))) (h2 : 2 * (A * (q + 1)) ≤ hi * q) (hl : 0 < lo) (hh : 0 < hi) (v1 : 2 * ((q + 1) * A) ≤ V + A) (v2 : V ≤ 2 * ((q + 1) * A) + A) :
  lo * (2 * (q + 1)) < 2 * V ∧ 2 * V < hi * (2 * (q + 1)) := by
 have e1 : A * (q + 1) = A * q + A := by rw [Nat.mul_add, Nat.mul_one]
 have e2 : (q + 1) * A = A * q + A := by rw [Nat.mul_comm, e1]
 have e3 : lo * (q + 1 + 1) = lo * q + lo + lo := by rw [Nat.mul_add, Nat.mul_add, Nat.mul_one]
 have e4 : lo * (2 * (q + 1)) = 2 * (lo * q + lo) := by rw [Nat.mul_left_comm, Nat.mul_add, Nat.mul_one]
 have e5 : hi * (2 * (q + 1)) = 2 * (hi * q + hi) := by rw [Nat.mul_left_comm, Nat.mul_add, Nat.mul_one]
 rw [e4, e5]
 rw [e1, e3] at h1
 rw [e1] at h2
 rw [e2] at v1 v2
 have l0 : lo ≤ lo * q := Nat.le_mul_of_pos_right _ hq
 generalize hx : A * q = x at *
 generalize hy : lo * q = y at *
 generalize hz : hi * q = z at *
 constructor
 ·refine Nat.lt_of_not_le fun c => ?_
  have i1 : 2 * x + A ≤ y + lo := by omega
  have k1 := Nat.mul_le_mul_right q i1
  have k2 := Nat.mul_le_mul_right q h1
  rw [Nat.add_mul, Nat.add_mul, Nat.mul_assoc 2, hx, hy] at k1
  rw [Nat.add_mul, Nat.add_mul, Nat.mul_assoc 2, Nat.add_mul, hx, hy] at k2
  omega
 ·refine Nat.lt_of_not_le fun c => ?_
  have i1 : z + hi ≤ 2 * x + 3 * A := by omega
  have k1 := Nat.mul_le_mul_right q i1
  have k2 := Nat.mul_le_mul_right q h2
  rw [Nat.add_mul, Nat.add_mul, Nat.mul_assoc 2, Nat.mul_assoc 3, hx, hz] at k1
  rw [Nat.mul_assoc 2, Nat.add_mul, hx] at k2
  omega
theorem inc_nat {W : Int} {n r : Nat} (h1 : InC (W * 2^n) (((2^n : Nat) : Int) + 1) r) (h2 : InC (W * 2^n) (((2^n : Nat) : Int) - 1) r) :
  decide (W < 0) = ng r ∧ sz r ≠ 0 ∧ sz r + 1 < INF ∧ low (sz r) * (2^n + 1) ≤ 2 * (W.natAbs * 2^n) ∧ 2 * (W.natAbs * 2^n) ≤ high (sz r) * (2^n - 1) := by
 obtain ⟨a1, a2, a3, a4⟩ := h1
 obtain ⟨_, _, _, b4⟩ := h2
 have hp : 1 ≤ 2^n := Nat.two_pow_pos n
 have e : (W * 2^n).natAbs = W.natAbs * 2^n := by
  have : ((2 : Int)^n) = ((2^n : Nat) : Int) := by push_cast; rfl
  rw [Int.natAbs_mul, this, Int.natAbs_natCast]
 rw [e] at a4 b4
 have c1 : (low (sz r) : Int) * (((2^n : Nat) : Int) + 1) ≤ 2 * ((W.natAbs * 2^n : Nat) : Int) := by
  split at a4
  ·exact a4.1
  ·omega
 have c2 : 2 * ((W.natAbs * 2^n : Nat) : Int) ≤ (high (sz r) : Int) * (((2^n : Nat) : Int) - 1) := by
  split at b4
  ·exact b4.2
  ·omega
 refine ⟨?_, a2, a3, ?_, ?_⟩
 ·rw [← a1]
  unfold Ref.zn
  rw [decide_eq_decide]
  have hp' : (0 : Int) < 2^n := by
   have : ((2 : Int)^n) = ((2^n : Nat) : Int) := by push_cast; rfl
   rw [this]; omega
  constructor
  ·intro h; exact Int.mul_neg_of_neg_of_pos h hp'
  ·intro h
   by_cases q : W < 0
   ·exact q
   ·exact absurd (Int.mul_nonneg (Int.not_lt.1 q) (Int.le_of_lt hp')) (by omega)
 ·have : ((low (sz r) * (2^n + 1) : Nat) : Int) ≤ ((2 * (W.natAbs * 2^n) : Nat) : Int) := by
   rw [Int.natCast_mul, Int.natCast_add, Int.natCast_mul 2]
   exact c1
  omega
 ·have : ((2 * (W.natAbs * 2^n) : Nat) : Int) ≤ ((high (sz r) * (2^n - 1) : Nat) : Int) := by
   rw [Int.natCast_mul 2, Int.natCast_mul (high _), Int.natCast_sub hp]
   exact c2
  omega
theorem mg_pos {s : Nat} (h : s ≠ 0) : 0 < mg s := by
 unfold mg
 split
 ·omega
 ·exact Nat.mul_pos (by omega) (Nat.two_pow_pos _)
theorem low_pos {s : Nat} (h : s ≠ 0) : 0 < low s := by have := mg_pos h; unfold low; omega
theorem high_pos' {s : Nat} (h : s ≠ 0) : 0 < high s := by have := mg_pos h; unfold high; omega
theorem pv_near {W : Int} {n r : Nat} {V : Int} (hn : 1 ≤ n) (hr : r < 18446744073709551616) (h1 : InC (W * 2^n) (((2^n : Nat) : Int) + 1) r) (h2 : InC (W * 2^n) (((2^n : Nat) : Int) - 1) r)
  (s : V < 0 ↔ W < 0) (v1 : 2 * (2^n * W.natAbs) ≤ V.natAbs + W.natAbs) (v2 : V.natAbs ≤ 2 * (2^n * W.natAbs) + W.natAbs) : Rp4.pv fD (n + 1) V = r := by
 obtain ⟨a1, a2, a3, a4, a5⟩ := inc_nat h1 h2
 obtain ⟨q, hq⟩ : ∃ q, 2^n = q + 1 := ⟨2^n - 1, by have := Nat.two_pow_pos n; omega⟩
 have hq1 : 1 ≤ q := by
  have := Nat.pow_le_pow_right (n := 2) (by decide) hn
  omega
 rw [hq] at a4 a5 v1 v2
 obtain ⟨b1, b2⟩ := mid_bounds hq1 a4 a5 (low_pos a2) (high_pos' a2) v1 v2
 have k : 2^(n + 1) = 2 * (q + 1) := by rw [Nat.pow_succ, hq, Nat.mul_comm]
 have nst : Nst fD (n + 1) V.natAbs (sz r) := by
  refine ⟨?_, fun _ => .inl ?_, fun t ht => .inl ?_⟩
  ·rw [INF_v] at a3; rw [inf_v]; omega
  ·unfold md; rw [nF_mg, nF_mg, k]; exact b2
  ·unfold md; rw [nF_mg, nF_mg, k]
   unfold low at b1
   rw [ht, Nat.add_sub_cancel] at b1
   exact b1
 have V0 : V ≠ 0 := by
  intro e
  rw [e] at b1
  have : 2 * (0 : Int).natAbs = 0 := rfl
  omega
 unfold Rp4.pv
 rw [if_neg V0, rsz_eq fmD nst, show decide (V < 0) = ng r by rw [← a1, decide_eq_decide]; exact s, pat_w hr]
theorem not_sure {x y : Nat} {i : Int} {r : Nat} (h : AcceptR x y i r false) : r = 0 := by
 rcases h with ⟨_, h, _⟩ | ⟨_, u, d, _, ⟨_, h, _⟩ | ⟨_, _, h⟩⟩
 ·exact h
 ·exact h
 ·cases h
end Go.Proofs.YtelfmddcjlocpaaDoor.AccRL
