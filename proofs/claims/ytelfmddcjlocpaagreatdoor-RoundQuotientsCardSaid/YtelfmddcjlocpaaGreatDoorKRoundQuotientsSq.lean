/- What the printed rounding answers: the pattern of the nearest size. Plain Lean over the printed functions. Conditions: numbers in form. The order of dyadics as the order of their values; Decide; calls on given numbers. Plain Lean over the printed functions. Conditions: numbers in form. What the printed functions of a format answer: take, finite, parts, classes, midpoints, cells, neighbours, ranks. Plain Lean over the printed functions. Conditions: words below 2^64. Sums, differences, twins and scaled numbers of dyadics: their values. Plain Lean over the printed functions. Conditions: values of at most 500,000 bits above the lowest unit. Rounding of quotients and of roots to the sizes of a format, and what a sticky bit tells of them. Plain Lean; no program in sight. No condition. -/
import Derived.Test.YtelfmddcjlocpaaGreatDoorKRoundQuotientsRp2
import Derived.Test.YtelfmddcjlocpaaGreatDoorKRoundQuotientsPxL0
import Derived.Test.YtelfmddcjlocpaaGreatDoorKRoundQuotientsPxL1
import Derived.Test.YtelfmddcjlocpaaGreatDoorKRoundQuotientsPRefx0
import Derived.Test.YtelfmddcjlocpaaGreatDoorKRoundQuotientsPxQ0
import Derived.Test.YtelfmddcjlocpaaGreatDoorKRoundQuotientsRnd
section
namespace Go.Proofs.YtelfmddcjlocpaaGreatDoor.Rp3
open Go.RowKit Go.Proofs.YtelfmddcjlocpaaGreatDoorW.PrintWords Go.Proofs.YtelfmddcjlocpaaGreatDoorW.PrintMore Go.Proofs.YtelfmddcjlocpaaGreatDoor.Num Go.Proofs.YtelfmddcjlocpaaGreatDoor.PLib Go.Proofs.YtelfmddcjlocpaaGreatDoor.Ref Go.Proofs.YtelfmddcjlocpaaGreatDoor.GTh Go.Proofs.YtelfmddcjlocpaaGreatDoor.Given Go.Proofs.YtelfmddcjlocpaaGreatDoor.Rp1 Go.Proofs.YtelfmddcjlocpaaGreatDoor.Rp2 Go.Proofs.YtelfmddcjlocpaaGreatDoor.BinLaw Go.Proofs.YtelfmddcjlocpaaGreatDoor.Fm8 Go.Proofs.YtelfmddcjlocpaaGreatDoor.Rnd
theorem numShl_f {neg : Bool} {m n : Nat} (h : nl m ≤ 8192) (h0 : m = 0 → neg = false) (hn : m = 0 ∨ bl m + n ≤ 524288) : num_Shl.f neg (lb m) (n : Int) = some (neg, lb (m * 2^n), 0) := by
 unfold num_Shl.f
 rw [if_neg (by omega), numForm_lb h h0, shl_f h hn]
 simp only [Option.bind_some, if_true]
 rw [told_f]
 by_cases c : m = 0
 ·rw [h0 c]; rfl
 ·have : m * 2^n ≠ 0 := Nat.mul_ne_zero c (Nat.pos_iff_ne_zero.1 (Nat.two_pow_pos n))
  rw [decide_eq_true this, Bool.and_true]; rfl
theorem of_f {f : Int} {F : Fmt} (h : Fm f F) : round_of.f f = some (((F.man : Nat) : Int), F.low, ((F.wd - 1 : Nat) : Int)) := by
 rcases h with ⟨rfl, rfl⟩ | ⟨rfl, rfl⟩ <;> rfl
theorem of_no {f : Int} (h : f ≠ 32) (h' : f ≠ 64) : round_of.f f = some (0, 0, 0) := by
 unfold round_of.f
 rw [if_neg h, if_neg h']
theorem inf_f {f : Int} {F : Fmt} (h : Fm f F) : round_widths_infinity.f (F.man : Nat) F.low ((F.wd - 1 : Nat) : Int) = some ((F.inf : Nat) : Int) := by
 rcases h with ⟨_, rfl⟩ | ⟨_, rfl⟩ <;> decide +kernel
def pat (F : Fmt) (neg : Bool) (s : Nat) : Nat := if neg then F.sg + s else s
theorem signed_f {f : Int} {F : Fmt} (h : Fm f F) (neg : Bool) {s : Nat} (hs : s < F.sg) : round_widths_signed.f (F.man : Nat) F.low ((F.wd - 1 : Nat) : Int) neg (s : Int) = some ((pat F neg s : Nat) : Int) := by
 unfold round_widths_signed.f pat
 cases neg
 ·rfl
 ·have e : shl .u64 1 ((F.wd - 1 : Nat) : Int) = ((F.sg : Nat) : Int) := by rcases h with ⟨_, rfl⟩ | ⟨_, rfl⟩ <;> decide +kernel
  rw [if_pos rfl, if_pos (by omega), e, or_sg (fm_isF h) hs]; rfl
theorem shl_hd {f : Int} {F : Fmt} (h : Fm f F) {A : Nat} (hA : A < 2200) : shl .u64 ((A : Nat) : Int) (((F.man : Nat) : Int) - 1) = ((A * hdF F : Nat) : Int) := by
 rcases h with ⟨_, rfl⟩ | ⟨_, rfl⟩
 ·have e := shl_small (k := .u64) (x := (A : Int)) (y := 23) rfl (by decide)
  show shl .u64 (A : Int) 23 = ((A * 8388608 : Nat) : Int)
  rw [← e, show (2 : Int)^(23 : Int).toNat = 8388608 from by decide, wu64 (by omega) (by omega)]
  omega
 ·have e := shl_small (k := .u64) (x := (A : Int)) (y := 52) rfl (by decide)
  show shl .u64 (A : Int) 52 = ((A * 4503599627370496 : Nat) : Int)
  rw [← e, show (2 : Int)^(52 : Int).toNat = 4503599627370496 from by decide, wu64 (by omega) (by omega)]
  omega
theorem rsz_big {f : Int} {F : Fmt} (h : Fm f F) {g V : Nat} (hb : (1101 : Int) - F.low ≤ ((bl V : Nat) : Int) - (g : Nat)) : rsz F g V = F.inf := by
 unfold rsz
 apply Nat.min_eq_right
 have key : F.inf ≤ (max (bl V - F.man) g - g) * hdF F := by
  rcases h with ⟨_, rfl⟩ | ⟨_, rfl⟩
  ·have hb' : (1101 : Int) - (-149) ≤ ((bl V : Nat) : Int) - (g : Nat) := hb
   have hA : 255 ≤ max (bl V - 24) g - g := by omega
   show 2139095040 ≤ (max (bl V - 24) g - g) * 8388608
   omega
  ·have hb' : (1101 : Int) - (-1074) ≤ ((bl V : Nat) : Int) - (g : Nat) := hb
   have hA : 2047 ≤ max (bl V - 53) g - g := by omega
   show 9218868437227405312 ≤ (max (bl V - 53) g - g) * 4503599627370496
   omega
 omega
theorem unit_le {f : Int} {F : Fmt} (h : Fm f F) {V K : Nat} (hK : bl V ≤ F.man + K) : nr V K ≤ 9007199254740992 := by
 have h1 : V / 2^K < 2^F.man := by
  rw [Nat.div_lt_iff_lt_mul (Nat.two_pow_pos K), ← Nat.pow_add]
  exact Nat.lt_of_lt_of_le (bl_lt V) (Nat.pow_le_pow_right (by decide) hK)
 have h2 : 2^F.man ≤ 9007199254740992 := by rcases h with ⟨_, rfl⟩ | ⟨_, rfl⟩ <;> decide
 unfold nr
 split <;> omega
set_option maxRecDepth 10000 in
theorem size_wide {f : Int} {F : Fmt} (h : Fm f F) {m : Nat} {x E : Int} (h0 : m ≠ 0) (hl : nl m ≤ 8192) (hx : -3000000 ≤ x ∧ x ≤ 3000000) (hE : E ≤ x) (hE2 : E ≤ F.low) :
  Ev (fun k => round_widths_size.f k (F.man : Nat) F.low ((F.wd - 1 : Nat) : Int) (lb m) x) ((rsz F (F.low - E).toNat (m * 2^(x - E).toNat) : Nat) : Int) := by
 obtain ⟨c, hc⟩ : ∃ c : Nat, c = (x - E).toNat := ⟨_, rfl⟩
 obtain ⟨g, hg⟩ : ∃ g : Nat, g = (F.low - E).toNat := ⟨_, rfl⟩
 rw [← hc, ← hg]
 have hblV : bl (m * 2^c) = bl m + c := bl_mul m c h0
 have hbm := bl_le' hl
 have hbp := bl_pos h0
 have hml : (F.man = 24 ∧ F.low = -149) ∨ (F.man = 53 ∧ F.low = -1074) := fm_man h
 unfold round_widths_size.f
 rw [bits_f hl, inf_f h]
 simp only [Option.bind_some]
 obtain ⟨t, ht⟩ : ∃ t, t = x + ((bl m : Nat) : Int) - 1 := ⟨_, rfl⟩
 have w1 : wrap64 (wrap64 (x + ((bl m : Nat) : Int)) - 1) = t := by rw [w64 (x := x + _) (by omega) (by omega), w64 (by omega) (by omega), ht]
 rw [w1]
 have w2 : wrap64 (wrap64 (t - ((F.man : Nat) : Int)) + 1) = t - ((F.man : Nat) : Int) + 1 := by rw [w64 (x := t - _) (by omega) (by omega), w64 (by omega) (by omega)]
 rw [w2]
 obtain ⟨U, hU⟩ : ∃ U, U = mx (t - ((F.man : Nat) : Int) + 1) F.low := ⟨_, rfl⟩
 rw [← hU]
 have hU2 : U = max (t - ((F.man : Nat) : Int) + 1) F.low := by rw [hU]; unfold mx; omega
 by_cases c1 : t > 1100
 ·refine Ev.congr (fun k => if_pos c1) ?_
  rw [rsz_big h (by rw [hblV]; omega)]
  exact Ev.now _
 ·refine Ev.congr (fun k => if_neg c1) ?_
  obtain ⟨K, hK⟩ : ∃ K : Nat, K = max (bl (m * 2^c) - F.man) g := ⟨_, rfl⟩
  have hKU : (K : Int) = U - E := by rw [hK, hblV]; omega
  have hu := unit_le h (V := m * 2^c) (K := K) (by omega)
  have hA : K - g < 2200 := by omega
  have hj : Ev (fun k => round_widths_size.j0 k U (F.man : Nat) F.low ((F.wd - 1 : Nat) : Int) false (lb (nr (m * 2^c) K))) ((rsz F g (m * 2^c) : Nat) : Int) := by
   refine Ev.step (f := fun _ => some ((rsz F g (m * 2^c) : Nat) : Int)) (fun k => ?_) (Ev.now _)
   have w3 : wrap64 (((F.man : Nat) : Int) - 1) = ((F.man : Nat) : Int) - 1 := w64 (by omega) (by omega)
   have w4 : IntKind.u64.wrap (wrap64 (U - F.low)) = ((K - g : Nat) : Int) := by
    rw [w64 (x := U - F.low) (by omega) (by omega), wu64 (by omega) (by omega)]; omega
   have hhd : hdF F ≤ 4503599627370496 := (fm_hd h).2.2.1
   have hAh : (K - g) * hdF F ≤ 2200 * 4503599627370496 - 4503599627370496 := by
    have : (K - g) * hdF F ≤ 2199 * 4503599627370496 := Nat.mul_le_mul (by omega) hhd
    omega
   have hmn : ∀ a : Nat, mn (a : Int) ((F.inf : Nat) : Int) = ((min a F.inf : Nat) : Int) := by intro a; unfold mn; omega
   have er : rsz F g (m * 2^c) = min ((K - g) * hdF F + nr (m * 2^c) K) F.inf := by unfold rsz; rw [← hK]
   rw [round_widths_size.j0, inf_f h, w3, w4, shl_hd h hA, er]
   generalize nr (m * 2^c) K = u at *
   rw [lb_len]
   by_cases z : u = 0
   ·rw [z, show nl 0 = 0 from rfl, if_neg (by omega), if_pos (by omega)]
    simp only [Option.bind_some]
    rw [Int.add_zero, wu64 (by omega) (by omega), hmn]; rfl
   ·have n1 := nl_one z (by omega)
    have e2 : rd (lb u) 0 = (u : Int) := by
     have := lb_rd (x := u) (j := 0) (by omega)
     rw [show ((0 : Nat) : Int) = 0 from rfl] at this
     rw [this]
     unfold dw
     rw [pw_zero, Nat.div_one]
     omega
    rw [n1, if_pos (by decide), if_pos (by decide), if_pos (by omega), e2]
    simp only [Option.bind_some]
    rw [wu64 (by omega) (by omega), show (((K - g) * hdF F : Nat) : Int) + (u : Int) = (((K - g) * hdF F + u : Nat) : Int) by omega, hmn]
  by_cases c2 : U ≥ x
  ·refine Ev.congr (fun k => if_pos c2) ?_
   obtain ⟨n, hn⟩ : ∃ n : Nat, U - x = (n : Int) := ⟨(U - x).toNat, by omega⟩
   have w5 : wrap64 (U - x) = (n : Int) := by rw [w64 (by omega) (by omega), hn]
   rw [w5]
   have en : nr (m * 2^c) K = nr m n := by rw [show K = n + c by omega, nr_scale]
   rw [en] at hj
   refine Ev.bind (nearShr_ev (neg := false) hl (fun _ => rfl) (n := n) (by omega)) ?_
   exact hj
  ·refine Ev.congr (fun k => if_neg c2) ?_
   obtain ⟨d, hd⟩ : ∃ d : Nat, x - U = (d : Int) := ⟨(x - U).toNat, by omega⟩
   have w5 : wrap64 (x - U) = (d : Int) := by rw [w64 (by omega) (by omega), hd]
   rw [w5, numShl_f (neg := false) hl (fun _ => rfl) (.inr (by omega))]
   have en : nr (m * 2^c) K = m * 2^d := by rw [show c = d + K by omega, Nat.pow_add, ← Nat.mul_assoc, nr_whole]
   rw [en] at hj
   exact hj
theorem size_ev {f : Int} {F : Fmt} (h : Fm f F) {m : Nat} {x E : Int} (h0 : m ≠ 0) (hl : nl m ≤ 8192) (hx : -1048576 ≤ x ∧ x ≤ 1048576) (hE : E ≤ x) (hE2 : E ≤ F.low) :
  Ev (fun k => round_widths_size.f k (F.man : Nat) F.low ((F.wd - 1 : Nat) : Int) (lb m) x) ((rsz F (F.low - E).toNat (m * 2^(x - E).toNat) : Nat) : Int) := size_wide h h0 hl ⟨by omega, by omega⟩ hE hE2
end Go.Proofs.YtelfmddcjlocpaaGreatDoor.Rp3
end
section
namespace Go.Proofs.YtelfmddcjlocpaaGreatDoor.Rp4
open Go.RowKit Go.Proofs.YtelfmddcjlocpaaGreatDoorW.PrintWords Go.Proofs.YtelfmddcjlocpaaGreatDoorW.PrintMore Go.Proofs.YtelfmddcjlocpaaGreatDoor.Num Go.Proofs.YtelfmddcjlocpaaGreatDoor.PLib Go.Proofs.YtelfmddcjlocpaaGreatDoor.Ref Go.Proofs.YtelfmddcjlocpaaGreatDoor.GTh Go.Proofs.YtelfmddcjlocpaaGreatDoor.Given Go.Proofs.YtelfmddcjlocpaaGreatDoor.Rp1 Go.Proofs.YtelfmddcjlocpaaGreatDoor.Rp2 Go.Proofs.YtelfmddcjlocpaaGreatDoor.Rp3 Go.Proofs.YtelfmddcjlocpaaGreatDoor.BinLaw Go.Proofs.YtelfmddcjlocpaaGreatDoor.Fm8 Go.Proofs.YtelfmddcjlocpaaGreatDoor.Rnd
def vs (neg : Bool) (m : Nat) (x E : Int) : Int := if neg then -((m * 2^(x - E).toNat : Nat) : Int) else ((m * 2^(x - E).toNat : Nat) : Int)
theorem szc_vs {m m' : Nat} {x x' E : Int} (h : E ≤ x) (h' : E ≤ x') : szc m x m' x' = cmI (m * 2^(x - E).toNat) (m' * 2^(x' - E).toNat) := by
 unfold szc
 obtain ⟨d, hd⟩ : ∃ d : Nat, d = (min x x' - E).toNat := ⟨_, rfl⟩
 have e1 : (x - E).toNat = (x - min x x').toNat + d := by omega
 have e2 : (x' - E).toNat = (x' - min x x').toNat + d := by omega
 rw [e1, e2, Nat.pow_add, Nat.pow_add, ← Nat.mul_assoc, ← Nat.mul_assoc]
 generalize m * 2^(x - min x x').toNat = a
 generalize m' * 2^(x' - min x x').toNat = b
 have p := Nat.two_pow_pos d
 have i1 : a * 2^d < b * 2^d ↔ a < b := ⟨fun h => Nat.lt_of_mul_lt_mul_right h, fun h => Nat.mul_lt_mul_of_pos_right h p⟩
 have i2 : b * 2^d < a * 2^d ↔ b < a := ⟨fun h => Nat.lt_of_mul_lt_mul_right h, fun h => Nat.mul_lt_mul_of_pos_right h p⟩
 unfold cmI
 simp only [i1, i2]
def pv (F : Fmt) (g : Nat) (V : Int) : Nat := if V = 0 then 0 else pat F (decide (V < 0)) (rsz F g V.natAbs)
theorem wds {f : Int} {F : Fmt} (h : Fm f F) : ((((F.man : Nat) : Int)) == 0 && (F.low == 0 && (((F.wd - 1 : Nat) : Int) == 0))) = false := by rcases h with ⟨_, rfl⟩ | ⟨_, rfl⟩ <;> rfl
end Go.Proofs.YtelfmddcjlocpaaGreatDoor.Rp4
end
section
namespace Go.Proofs.YtelfmddcjlocpaaGreatDoor.Rp5
open Go.RowKit Go.Proofs.YtelfmddcjlocpaaGreatDoorW.PrintWords Go.Proofs.YtelfmddcjlocpaaGreatDoorW.PrintMore Go.Proofs.YtelfmddcjlocpaaGreatDoor.Num Go.Proofs.YtelfmddcjlocpaaGreatDoor.PLib Go.Proofs.YtelfmddcjlocpaaGreatDoor.Ref Go.Proofs.YtelfmddcjlocpaaGreatDoor.GTh Go.Proofs.YtelfmddcjlocpaaGreatDoor.Given Go.Proofs.YtelfmddcjlocpaaGreatDoor.Rp1 Go.Proofs.YtelfmddcjlocpaaGreatDoor.Rp2 Go.Proofs.YtelfmddcjlocpaaGreatDoor.Rp3 Go.Proofs.YtelfmddcjlocpaaGreatDoor.Rp4 Go.Proofs.YtelfmddcjlocpaaGreatDoor.BinLaw Go.Proofs.YtelfmddcjlocpaaGreatDoor.Fm8 Go.Proofs.YtelfmddcjlocpaaGreatDoor.Rnd
def cl (F : Fmt) (s : Nat) : Int := if s = 0 then 0 else if s < hdF F then 1 else if s < F.inf then 2 else if s = F.inf then 3 else 4
end Go.Proofs.YtelfmddcjlocpaaGreatDoor.Rp5
end
section
set_option linter.unusedVariables false
namespace Go.Proofs.YtelfmddcjlocpaaGreatDoor.Rp7
open Go.RowKit Go.Proofs.YtelfmddcjlocpaaGreatDoorW.PrintWords Go.Proofs.YtelfmddcjlocpaaGreatDoorW.PrintMore Go.Proofs.YtelfmddcjlocpaaGreatDoor.Num Go.Proofs.YtelfmddcjlocpaaGreatDoor.PLib Go.Proofs.YtelfmddcjlocpaaGreatDoor.Ref Go.Proofs.YtelfmddcjlocpaaGreatDoor.GTh Go.Proofs.YtelfmddcjlocpaaGreatDoor.Given Go.Proofs.YtelfmddcjlocpaaGreatDoor.Rp1 Go.Proofs.YtelfmddcjlocpaaGreatDoor.Rp2 Go.Proofs.YtelfmddcjlocpaaGreatDoor.Rp3 Go.Proofs.YtelfmddcjlocpaaGreatDoor.Rp4 Go.Proofs.YtelfmddcjlocpaaGreatDoor.Rp5 Go.Proofs.YtelfmddcjlocpaaGreatDoor.BinLaw Go.Proofs.YtelfmddcjlocpaaGreatDoor.Fm8 Go.Proofs.YtelfmddcjlocpaaGreatDoor.Rnd
theorem mn_min (a b : Int) : mn a b = min a b := by unfold mn; split <;> omega
end Go.Proofs.YtelfmddcjlocpaaGreatDoor.Rp7
end
section
set_option linter.unusedVariables false
namespace Go.Proofs.YtelfmddcjlocpaaGreatDoor.Sq
open Go.Proofs.YtelfmddcjlocpaaGreatDoor.BinLaw Go.Proofs.YtelfmddcjlocpaaGreatDoor.Ref Go.Proofs.YtelfmddcjlocpaaGreatDoor.Fm8 Go.Proofs.YtelfmddcjlocpaaGreatDoor.Rnd
structure Nq (F : Fmt) (n d s : Nat) : Prop where mk ::
 (le : s ≤ F.inf)
 (up : s < F.inf → 2 * n < md F 0 s * d ∨ (2 * n = md F 0 s * d ∧ s % 2 = 0))
 (dn : ∀ t, s = t + 1 → md F 0 t * d < 2 * n ∨ (md F 0 t * d = 2 * n ∧ s % 2 = 0))
theorem md_g (F : Fmt) (g s : Nat) : md F g s = md F 0 s * 2^g := by unfold md; rw [Nat.pow_zero, Nat.mul_one]
theorem nq_mono {f : Int} {F : Fmt} (h : Fm f F) {n d n' d' s s' : Nat} (hd : 0 < d) (hd' : 0 < d') (hV : n * d' ≤ n' * d) (a : Nq F n d s) (b : Nq F n' d' s') : s ≤ s' := by
 rcases Nat.lt_or_ge s' s with c | c
 ·exfalso
  obtain ⟨t, rfl⟩ : ∃ t, s = t + 1 := ⟨s - 1, by omega⟩
  have a1 := a.dn t rfl
  have b1 := b.up (by have := a.le; omega)
  have m1 := md_le h (g := 0) (show s' ≤ t by omega)
  have x1 : md F 0 t * d * d' ≤ 2 * n * d' := Nat.mul_le_mul_right _ (by omega)
  have x2 : 2 * n' * d ≤ md F 0 s' * d' * d := Nat.mul_le_mul_right _ (by omega)
  have x3 : 2 * (n * d') ≤ 2 * (n' * d) := Nat.mul_le_mul_left _ hV
  have e1 : 2 * n * d' = 2 * (n * d') := Nat.mul_assoc _ _ _
  have e2 : 2 * n' * d = 2 * (n' * d) := Nat.mul_assoc _ _ _
  have e3 : md F 0 s' * d' * d = md F 0 s' * d * d' := by rw [Nat.mul_right_comm]
  rcases Nat.lt_or_eq_of_le (show s' ≤ t by omega) with q | q
  ·have l := md_lt h (g := 0) q
   have l2 : md F 0 s' * d * d' < md F 0 t * d * d' := Nat.mul_lt_mul_of_pos_right (Nat.mul_lt_mul_of_pos_right l hd) hd'
   omega
  ·subst q
   rcases a1 with a1 | ⟨a1, a2⟩
   ·have y : md F 0 s' * d * d' < 2 * n * d' := Nat.mul_lt_mul_of_pos_right a1 hd'
    omega
   ·rcases b1 with b1 | ⟨b1, b2⟩
    ·have y : 2 * n' * d < md F 0 s' * d' * d := Nat.mul_lt_mul_of_pos_right b1 hd
     omega
    ·omega
 ·exact c
theorem nq_uniq {f : Int} {F : Fmt} (h : Fm f F) {n d s s' : Nat} (hd : 0 < d) (a : Nq F n d s) (b : Nq F n d s') : s = s' :=
 Nat.le_antisymm (nq_mono h hd hd (Nat.le_refl _) a b) (nq_mono h hd hd (Nat.le_refl _) b a)
theorem md_odd {f : Int} {F : Fmt} (h : Fm f F) (s : Nat) : md F 0 s = (2 * mgF F s + 1) * 2^(dF F s) := by
 unfold md
 rw [nF_next h, Nat.pow_zero, Nat.mul_one]
 unfold nF
 rw [Nat.add_mul, Nat.one_mul, Nat.mul_assoc 2]
 omega
theorem mg_lt2 {f : Int} {F : Fmt} (h : Fm f F) (s : Nat) : 2 * mgF F s + 1 < 2^(F.man + 1) := by
 obtain ⟨h0, -, -, -, -, hm, -, -, hm1⟩ := fm_hd h
 have e : 2^(F.man + 1) = 4 * hdF F := by
  rw [hm, show F.man + 1 = (F.man - 1) + 2 by omega, Nat.pow_add]
  omega
 have := Nat.mod_lt s h0
 unfold mgF
 split <;> omega
theorem md_or {f : Int} {F : Fmt} (h : Fm f F) (s g k : Nat) : (∃ c, md F 0 s * 2^g = 2^k * c) ∨ md F 0 s * 2^g < 2^(F.man + k) := by
 rw [md_odd h, Nat.mul_assoc, ← Nat.pow_add]
 by_cases c : k ≤ dF F s + g
 ·left
  refine ⟨(2 * mgF F s + 1) * 2^(dF F s + g - k), ?_⟩
  rw [Nat.mul_left_comm, ← Nat.pow_add]
  congr 2
  omega
 ·right
  have l := mg_lt2 h s
  have e : 2^(F.man + k) = 2^(F.man + 1) * 2^(k - 1) := by rw [← Nat.pow_add]; congr 1; omega
  rw [e]
  have p : 2^(dF F s + g) ≤ 2^(k - 1) := Nat.pow_le_pow_right (by decide) (by omega)
  exact Nat.lt_of_le_of_lt (Nat.mul_le_mul_left _ p) (Nat.mul_lt_mul_of_pos_right l (Nat.two_pow_pos _))
def stk (q r : Nat) : Nat := 2 * q + if r = 0 then 0 else 1
theorem le_even {q w c : Nat} (h : (2 * q + 1) * w ≤ w * 2 * c) (hw : 0 < w) : (2 * q + 2) * w ≤ w * 2 * c := by
 have e : w * 2 * c = (2 * c) * w := by rw [Nat.mul_assoc, Nat.mul_comm]
 rw [e] at h ⊢
 have := Nat.le_of_mul_le_mul_right h hw
 exact Nat.mul_le_mul_right _ (by omega)
theorem ge_even {q w c : Nat} (h : w * 2 * c ≤ (2 * q + 1) * w) (hw : 0 < w) : w * 2 * c ≤ 2 * q * w := by
 have e : w * 2 * c = (2 * c) * w := by rw [Nat.mul_assoc, Nat.mul_comm]
 rw [e] at h ⊢
 have := Nat.le_of_mul_le_mul_right h hw
 exact Nat.mul_le_mul_right _ (by omega)
theorem stk_up {f : Int} {F : Fmt} (h : Fm f F) {q K g s : Nat} (hq : 2^(F.man + 2) ≤ q) (c : 2 * ((2 * q + 1) * 2^K) ≤ md F 0 s * 2^g) : 2 * ((2 * q + 2) * 2^K) ≤ md F 0 s * 2^g := by
 have p := Nat.two_pow_pos K
 have e : ∀ x, 2 * (x * 2^K) = x * 2^(K + 1) := fun x => by rw [Nat.pow_succ]; rw [Nat.mul_left_comm, Nat.mul_comm 2]
 rw [e] at c ⊢
 rcases md_or h s g (K + 2) with ⟨d, hd⟩ | hd
 ·rw [hd, show K + 2 = K + 1 + 1 from rfl, Nat.pow_succ 2 (K + 1)] at c ⊢
  exact le_even c (Nat.two_pow_pos _)
 ·exfalso
  have e2 : 2^(F.man + (K + 2)) = 2^(F.man + 1) * 2^(K + 1) := by rw [← Nat.pow_add]; congr 1; omega
  have l : 2^(F.man + 1) * 2^(K + 1) ≤ (2 * q + 1) * 2^(K + 1) := Nat.mul_le_mul_right _ (by
   have : 2^(F.man + 2) = 2 * 2^(F.man + 1) := by rw [Nat.pow_succ, Nat.mul_comm]
   omega)
  omega
theorem stk_dn {f : Int} {F : Fmt} (h : Fm f F) {q K g s : Nat} (hq : 2^(F.man + 2) ≤ q) (c : md F 0 s * 2^g ≤ 2 * ((2 * q + 1) * 2^K)) : md F 0 s * 2^g ≤ 2 * (2 * q * 2^K) := by
 have p := Nat.two_pow_pos K
 have e : ∀ x, 2 * (x * 2^K) = x * 2^(K + 1) := fun x => by rw [Nat.pow_succ]; rw [Nat.mul_left_comm, Nat.mul_comm 2]
 rw [e] at c ⊢
 rcases md_or h s g (K + 2) with ⟨d, hd⟩ | hd
 ·rw [hd, show K + 2 = K + 1 + 1 from rfl, Nat.pow_succ 2 (K + 1)] at c ⊢
  exact ge_even c (Nat.two_pow_pos _)
 ·have e2 : 2^(F.man + (K + 2)) = 2^(F.man + 1) * 2^(K + 1) := by rw [← Nat.pow_add]; congr 1; omega
  have l : 2^(F.man + 1) * 2^(K + 1) ≤ 2 * q * 2^(K + 1) := Nat.mul_le_mul_right _ (by
   have : 2^(F.man + 2) = 2 * 2^(F.man + 1) := by rw [Nat.pow_succ, Nat.mul_comm]
   omega)
  omega
theorem stk_quo {f : Int} {F : Fmt} (h : Fm f F) {x b K g s : Nat} (hb : 0 < b) (hq : 2^(F.man + 2) ≤ x / b) (a : Nst F g (stk (x / b) (x % b) * 2^K) s) : Nq F (x * 2^(K + 1)) (b * 2^g) s := by
 have dm := Nat.div_add_mod x b
 have lt := Nat.mod_lt x hb
 have pk := Nat.two_pow_pos K
 obtain ⟨q, eq⟩ : ∃ q, q = x / b := ⟨_, rfl⟩
 obtain ⟨r, er⟩ : ∃ r, r = x % b := ⟨_, rfl⟩
 rw [← eq, ← er] at a
 rw [← eq, ← er] at dm
 rw [← eq] at hq
 rw [← er] at lt
 have ex : 2 * (x * 2^(K + 1)) = 2 * (2 * x) * 2^K := by rw [Nat.pow_succ]; ac_rfl
 have eb : ∀ M, M * (b * 2^g) = M * 2^g * b := fun M => by ac_rfl
 by_cases r0 : r = 0
 ·have e0 : stk q r = 2 * q := by unfold stk; rw [if_pos r0]; rfl
  rw [e0] at a
  have e1 : x = q * b := by rw [← dm, r0, Nat.add_zero, Nat.mul_comm]
  have e2 : 2 * (x * 2^(K + 1)) = 2 * (2 * q * 2^K) * b := by rw [ex, e1]; ac_rfl
  refine ⟨a.le, fun c => ?_, fun t c => ?_⟩
  ·rw [e2, eb]
   rcases a.up c with y | ⟨y, y2⟩
   ·rw [md_g] at y; exact .inl (Nat.mul_lt_mul_of_pos_right y hb)
   ·rw [md_g] at y; exact .inr ⟨by rw [y], y2⟩
  ·rw [e2, eb]
   rcases a.dn t c with y | ⟨y, y2⟩
   ·rw [md_g] at y; exact .inl (Nat.mul_lt_mul_of_pos_right y hb)
   ·rw [md_g] at y; exact .inr ⟨by rw [y], y2⟩
 ·have e0 : stk q r = 2 * q + 1 := by unfold stk; rw [if_neg r0]
  rw [e0] at a
  have l1 : 2 * x < (2 * q + 2) * b := by
   have : (2 * q + 2) * b = 2 * (b * q) + 2 * b := by rw [Nat.add_mul, Nat.mul_assoc, Nat.mul_comm q]
   omega
  have l2 : 2 * q * b < 2 * x := by
   have : 2 * q * b = 2 * (b * q) := by rw [Nat.mul_assoc, Nat.mul_comm q]
   omega
  refine ⟨a.le, fun c => .inl ?_, fun t c => .inl ?_⟩
  ·have y : 2 * ((2 * q + 1) * 2^K) ≤ md F 0 s * 2^g := by rw [← md_g]; have := a.up c; omega
   have z := Nat.mul_le_mul_right b (stk_up h hq y)
   rw [ex, eb]
   refine Nat.lt_of_lt_of_le ?_ z
   have e3 : 2 * ((2 * q + 2) * 2^K) * b = 2 * ((2 * q + 2) * b) * 2^K := by ac_rfl
   rw [e3]
   exact Nat.mul_lt_mul_of_pos_right (by omega) pk
  ·have y : md F 0 t * 2^g ≤ 2 * ((2 * q + 1) * 2^K) := by rw [← md_g]; have := a.dn t c; omega
   have z := Nat.mul_le_mul_right b (stk_dn h hq y)
   rw [ex, eb]
   refine Nat.lt_of_le_of_lt z ?_
   have e3 : 2 * (2 * q * 2^K) * b = 2 * (2 * q * b) * 2^K := by ac_rfl
   rw [e3]
   exact Nat.mul_lt_mul_of_pos_right (by omega) pk
structure Nr (F : Fmt) (n d s : Nat) : Prop where mk ::
 (le : s ≤ F.inf)
 (up : s < F.inf → 4 * n < md F 0 s * md F 0 s * d ∨ (4 * n = md F 0 s * md F 0 s * d ∧ s % 2 = 0))
 (dn : ∀ t, s = t + 1 → md F 0 t * md F 0 t * d < 4 * n ∨ (md F 0 t * md F 0 t * d = 4 * n ∧ s % 2 = 0))
theorem sq_lt {a b : Nat} (h : a < b) : a * a < b * b := Nat.mul_self_lt_mul_self h
theorem sq_le {a b : Nat} (h : a ≤ b) : a * a ≤ b * b := Nat.mul_self_le_mul_self h
theorem nr_mono {f : Int} {F : Fmt} (h : Fm f F) {n d n' d' s s' : Nat} (hd : 0 < d) (hd' : 0 < d') (hV : n * d' ≤ n' * d) (a : Nr F n d s) (b : Nr F n' d' s') : s ≤ s' := by
 rcases Nat.lt_or_ge s' s with c | c
 ·exfalso
  obtain ⟨t, rfl⟩ : ∃ t, s = t + 1 := ⟨s - 1, by omega⟩
  have a1 := a.dn t rfl
  have b1 := b.up (by have := a.le; omega)
  have m1 := sq_le (md_le h (g := 0) (show s' ≤ t by omega))
  have l0 : s' < t → md F 0 s' * md F 0 s' < md F 0 t * md F 0 t := fun q => sq_lt (md_lt h (g := 0) q)
  generalize md F 0 s' * md F 0 s' = u at *
  generalize hv : md F 0 t * md F 0 t = v at *
  have x1 : v * d * d' ≤ 4 * n * d' := Nat.mul_le_mul_right _ (by omega)
  have x2 : 4 * n' * d ≤ u * d' * d := Nat.mul_le_mul_right _ (by omega)
  have x3 : 4 * (n * d') ≤ 4 * (n' * d) := Nat.mul_le_mul_left _ hV
  have e1 : 4 * n * d' = 4 * (n * d') := Nat.mul_assoc _ _ _
  have e2 : 4 * n' * d = 4 * (n' * d) := Nat.mul_assoc _ _ _
  have e3 : u * d' * d = u * d * d' := by rw [Nat.mul_right_comm]
  have m2 : u * d * d' ≤ v * d * d' := Nat.mul_le_mul_right _ (Nat.mul_le_mul_right _ m1)
  rcases Nat.lt_or_eq_of_le (show s' ≤ t by omega) with q | q
  ·have l2 : u * d * d' < v * d * d' := Nat.mul_lt_mul_of_pos_right (Nat.mul_lt_mul_of_pos_right (l0 q) hd) hd'
   omega
  ·rcases a1 with a1 | ⟨a1, a2⟩
   ·have y : v * d * d' < 4 * n * d' := Nat.mul_lt_mul_of_pos_right a1 hd'
    omega
   ·rcases b1 with b1 | ⟨b1, b2⟩
    ·have y : 4 * n' * d < u * d' * d := Nat.mul_lt_mul_of_pos_right b1 hd
     omega
    ·omega
 ·exact c
theorem nr_uniq {f : Int} {F : Fmt} (h : Fm f F) {n d s s' : Nat} (hd : 0 < d) (a : Nr F n d s) (b : Nr F n d s') : s = s' :=
 Nat.le_antisymm (nr_mono h hd hd (Nat.le_refl _) a b) (nr_mono h hd hd (Nat.le_refl _) b a)
theorem stk_root {f : Int} {F : Fmt} (h : Fm f F) {x q K g s : Nat} (hx : q * q ≤ x) (hx2 : x < (q + 1) * (q + 1)) (hq : 2^(F.man + 2) ≤ q) (a : Nst F g (stk q (x - q * q) * 2^K) s) : Nr F (x * (2^(K + 1) * 2^(K + 1))) (2^g * 2^g) s := by
 have pk := Nat.two_pow_pos K
 have ex : 4 * (x * (2^(K + 1) * 2^(K + 1))) = 4 * (4 * x) * (2^K * 2^K) := by
  have : 2^(K + 1) * 2^(K + 1) = 4 * (2^K * 2^K) := by rw [Nat.pow_succ, show (4 : Nat) = 2 * 2 from rfl]; ac_rfl
  rw [this]; ac_rfl
 have em : ∀ M : Nat, M * M * (2^g * 2^g) = (M * 2^g) * (M * 2^g) := fun M => by ac_rfl
 have es : ∀ y : Nat, (2 * (y * 2^K)) * (2 * (y * 2^K)) = 4 * (y * y) * (2^K * 2^K) := fun y => by
  have : (4 : Nat) = 2 * 2 := rfl
  rw [this]; ac_rfl
 have pp : 0 < 2^K * 2^K := Nat.mul_pos pk pk
 by_cases r0 : x - q * q = 0
 ·have e0 : stk q (x - q * q) = 2 * q := by unfold stk; rw [if_pos r0]; rfl
  rw [e0] at a
  have e1 : 4 * x = 2 * q * (2 * q) := by
   have : 2 * q * (2 * q) = 4 * (q * q) := by rw [show (4 : Nat) = 2 * 2 from rfl]; ac_rfl
   omega
  have e2 : 4 * (x * (2^(K + 1) * 2^(K + 1))) = (2 * (2 * q * 2^K)) * (2 * (2 * q * 2^K)) := by rw [ex, es, e1]
  refine ⟨a.le, fun c => ?_, fun t c => ?_⟩
  ·rw [e2, em]
   rcases a.up c with y | ⟨y, y2⟩
   ·rw [md_g] at y; exact .inl (sq_lt y)
   ·rw [md_g] at y; exact .inr ⟨by rw [y], y2⟩
  ·rw [e2, em]
   rcases a.dn t c with y | ⟨y, y2⟩
   ·rw [md_g] at y; exact .inl (sq_lt y)
   ·rw [md_g] at y; exact .inr ⟨by rw [y], y2⟩
 ·have e0 : stk q (x - q * q) = 2 * q + 1 := by unfold stk; rw [if_neg r0]
  rw [e0] at a
  have l1 : 4 * x < (2 * q + 2) * (2 * q + 2) := by
   have : (2 * q + 2) * (2 * q + 2) = 4 * ((q + 1) * (q + 1)) := by
    rw [show 2 * q + 2 = 2 * (q + 1) by omega, show (4 : Nat) = 2 * 2 from rfl]; ac_rfl
   omega
  have l2 : 2 * q * (2 * q) < 4 * x := by
   have : 2 * q * (2 * q) = 4 * (q * q) := by rw [show (4 : Nat) = 2 * 2 from rfl]; ac_rfl
   omega
  refine ⟨a.le, fun c => .inl ?_, fun t c => .inl ?_⟩
  ·have y : 2 * ((2 * q + 1) * 2^K) ≤ md F 0 s * 2^g := by rw [← md_g]; have := a.up c; omega
   have z := sq_le (stk_up h hq y)
   rw [ex, em]
   refine Nat.lt_of_lt_of_le ?_ z
   rw [es]
   exact Nat.mul_lt_mul_of_pos_right (by omega) pp
  ·have y : md F 0 t * 2^g ≤ 2 * ((2 * q + 1) * 2^K) := by rw [← md_g]; have := a.dn t c; omega
   have z := sq_le (stk_dn h hq y)
   rw [ex, em]
   refine Nat.lt_of_le_of_lt z ?_
   rw [es]
   exact Nat.mul_lt_mul_of_pos_right (by omega) pp
end Go.Proofs.YtelfmddcjlocpaaGreatDoor.Sq
end
