/- What the printed rounding answers: the pattern of the nearest size. Plain Lean over the printed functions. Conditions: numbers in form. The order of dyadics as the order of their values; Decide; calls on given numbers. Plain Lean over the printed functions. Conditions: numbers in form. -/
import Derived.Test.YtelfmddcjlocpaaGreatDoorKRoundCellsRp2
import Derived.Test.YtelfmddcjlocpaaGreatDoorKRoundCellsPxL0
import Derived.Test.YtelfmddcjlocpaaGreatDoorKRoundCellsPxL1
import Derived.Test.YtelfmddcjlocpaaGreatDoorKRoundCellsPxL2
import Derived.Test.YtelfmddcjlocpaaGreatDoorKRoundCellsPxQ0
section
namespace Go.Proofs.YtelfmddcjlocpaaGreatDoor.Rp3
open Go.RowKit Go.Proofs.YtelfmddcjlocpaaGreatDoorW.PrintWords Go.Proofs.YtelfmddcjlocpaaGreatDoorW.PrintMore Go.Proofs.YtelfmddcjlocpaaGreatDoor.Num Go.Proofs.YtelfmddcjlocpaaGreatDoor.PLib Go.Proofs.YtelfmddcjlocpaaGreatDoor.Ref Go.Proofs.YtelfmddcjlocpaaGreatDoor.GTh Go.Proofs.YtelfmddcjlocpaaGreatDoor.Given Go.Proofs.YtelfmddcjlocpaaGreatDoor.Rp1 Go.Proofs.YtelfmddcjlocpaaGreatDoor.Rp2 Go.Proofs.YtelfmddcjlocpaaGreatDoor.BinLaw Go.Proofs.YtelfmddcjlocpaaGreatDoor.Fm8 Go.Proofs.YtelfmddcjlocpaaGreatDoor.Rnd
theorem numShl_f {neg : Bool} {m n : Nat} (h : nl m ≤ 8192) (h0 : m = 0 → neg = false) (hn : m = 0 ∨ bl m + n ≤ 524288) : num_Shl.f neg (lb m) (n : Int) = some (neg, lb (m * 2^n), 0) := by
 unfold num_Shl.f
 rw [if_neg (by omega), numForm_lb h h0, shl_f h hn]
 simp only [Option.bind_some, if_true]
 rw [told_f]
 by_cases c : m = 0
 ·rw [h0 c]; rfl
 ·have : m * 2^n ≠ 0 := Nat.mul_ne_zero c (Nat.pos_iff_ne_zero.1 (Nat.two_pow_pos n))
  rw [decide_eq_true this, Bool.and_true]; rfl
theorem of_f {f : Int} {F : Fmt} (h : Fm f F) : round_of.f f = some (((F.man : Nat) : Int), F.low, ((F.wd - 1 : Nat) : Int)) := by
 rcases h with ⟨rfl, rfl⟩ | ⟨rfl, rfl⟩ <;> rfl
theorem of_no {f : Int} (h : f ≠ 32) (h' : f ≠ 64) : round_of.f f = some (0, 0, 0) := by
 unfold round_of.f
 rw [if_neg h, if_neg h']
theorem inf_f {f : Int} {F : Fmt} (h : Fm f F) : round_widths_infinity.f (F.man : Nat) F.low ((F.wd - 1 : Nat) : Int) = some ((F.inf : Nat) : Int) := by
 rcases h with ⟨_, rfl⟩ | ⟨_, rfl⟩ <;> decide +kernel
def pat (F : Fmt) (neg : Bool) (s : Nat) : Nat := if neg then F.sg + s else s
theorem signed_f {f : Int} {F : Fmt} (h : Fm f F) (neg : Bool) {s : Nat} (hs : s < F.sg) : round_widths_signed.f (F.man : Nat) F.low ((F.wd - 1 : Nat) : Int) neg (s : Int) = some ((pat F neg s : Nat) : Int) := by
 unfold round_widths_signed.f pat
 cases neg
 ·rfl
 ·have e : shl .u64 1 ((F.wd - 1 : Nat) : Int) = ((F.sg : Nat) : Int) := by rcases h with ⟨_, rfl⟩ | ⟨_, rfl⟩ <;> decide +kernel
  rw [if_pos rfl, if_pos (by omega), e, or_sg (fm_isF h) hs]; rfl
theorem shl_hd {f : Int} {F : Fmt} (h : Fm f F) {A : Nat} (hA : A < 2200) : shl .u64 ((A : Nat) : Int) (((F.man : Nat) : Int) - 1) = ((A * hdF F : Nat) : Int) := by
 rcases h with ⟨_, rfl⟩ | ⟨_, rfl⟩
 ·have e := shl_small (k := .u64) (x := (A : Int)) (y := 23) rfl (by decide)
  show shl .u64 (A : Int) 23 = ((A * 8388608 : Nat) : Int)
  rw [← e, show (2 : Int)^(23 : Int).toNat = 8388608 from by decide, wu64 (by omega) (by omega)]
  omega
 ·have e := shl_small (k := .u64) (x := (A : Int)) (y := 52) rfl (by decide)
  show shl .u64 (A : Int) 52 = ((A * 4503599627370496 : Nat) : Int)
  rw [← e, show (2 : Int)^(52 : Int).toNat = 4503599627370496 from by decide, wu64 (by omega) (by omega)]
  omega
theorem rsz_big {f : Int} {F : Fmt} (h : Fm f F) {g V : Nat} (hb : (1101 : Int) - F.low ≤ ((bl V : Nat) : Int) - (g : Nat)) : rsz F g V = F.inf := by
 unfold rsz
 apply Nat.min_eq_right
 have key : F.inf ≤ (max (bl V - F.man) g - g) * hdF F := by
  rcases h with ⟨_, rfl⟩ | ⟨_, rfl⟩
  ·have hb' : (1101 : Int) - (-149) ≤ ((bl V : Nat) : Int) - (g : Nat) := hb
   have hA : 255 ≤ max (bl V - 24) g - g := by omega
   show 2139095040 ≤ (max (bl V - 24) g - g) * 8388608
   omega
  ·have hb' : (1101 : Int) - (-1074) ≤ ((bl V : Nat) : Int) - (g : Nat) := hb
   have hA : 2047 ≤ max (bl V - 53) g - g := by omega
   show 9218868437227405312 ≤ (max (bl V - 53) g - g) * 4503599627370496
   omega
 omega
theorem unit_le {f : Int} {F : Fmt} (h : Fm f F) {V K : Nat} (hK : bl V ≤ F.man + K) : nr V K ≤ 9007199254740992 := by
 have h1 : V / 2^K < 2^F.man := by
  rw [Nat.div_lt_iff_lt_mul (Nat.two_pow_pos K), ← Nat.pow_add]
  exact Nat.lt_of_lt_of_le (bl_lt V) (Nat.pow_le_pow_right (by decide) hK)
 have h2 : 2^F.man ≤ 9007199254740992 := by rcases h with ⟨_, rfl⟩ | ⟨_, rfl⟩ <;> decide
 unfold nr
 split <;> omega
set_option maxRecDepth 10000 in
theorem size_ev {f : Int} {F : Fmt} (h : Fm f F) {m : Nat} {x E : Int} (h0 : m ≠ 0) (hl : nl m ≤ 8192) (hx : -1048576 ≤ x ∧ x ≤ 1048576) (hE : E ≤ x) (hE2 : E ≤ F.low) :
  Ev (fun k => round_widths_size.f k (F.man : Nat) F.low ((F.wd - 1 : Nat) : Int) (lb m) x) ((rsz F (F.low - E).toNat (m * 2^(x - E).toNat) : Nat) : Int) := by
 obtain ⟨c, hc⟩ : ∃ c : Nat, c = (x - E).toNat := ⟨_, rfl⟩
 obtain ⟨g, hg⟩ : ∃ g : Nat, g = (F.low - E).toNat := ⟨_, rfl⟩
 rw [← hc, ← hg]
 have hblV : bl (m * 2^c) = bl m + c := bl_mul m c h0
 have hbm := bl_le' hl
 have hbp := bl_pos h0
 have hml : (F.man = 24 ∧ F.low = -149) ∨ (F.man = 53 ∧ F.low = -1074) := fm_man h
 unfold round_widths_size.f
 rw [bits_f hl, inf_f h]
 simp only [Option.bind_some]
 obtain ⟨t, ht⟩ : ∃ t, t = x + ((bl m : Nat) : Int) - 1 := ⟨_, rfl⟩
 have w1 : wrap64 (wrap64 (x + ((bl m : Nat) : Int)) - 1) = t := by rw [w64 (x := x + _) (by omega) (by omega), w64 (by omega) (by omega), ht]
 rw [w1]
 have w2 : wrap64 (wrap64 (t - ((F.man : Nat) : Int)) + 1) = t - ((F.man : Nat) : Int) + 1 := by rw [w64 (x := t - _) (by omega) (by omega), w64 (by omega) (by omega)]
 rw [w2]
 obtain ⟨U, hU⟩ : ∃ U, U = mx (t - ((F.man : Nat) : Int) + 1) F.low := ⟨_, rfl⟩
 rw [← hU]
 have hU2 : U = max (t - ((F.man : Nat) : Int) + 1) F.low := by rw [hU]; unfold mx; omega
 by_cases c1 : t > 1100
 ·refine Ev.congr (fun k => if_pos c1) ?_
  rw [rsz_big h (by rw [hblV]; omega)]
  exact Ev.now _
 ·refine Ev.congr (fun k => if_neg c1) ?_
  obtain ⟨K, hK⟩ : ∃ K : Nat, K = max (bl (m * 2^c) - F.man) g := ⟨_, rfl⟩
  have hKU : (K : Int) = U - E := by rw [hK, hblV]; omega
  have hu := unit_le h (V := m * 2^c) (K := K) (by omega)
  have hA : K - g < 2200 := by omega
  have hj : Ev (fun k => round_widths_size.j0 k U (F.man : Nat) F.low ((F.wd - 1 : Nat) : Int) false (lb (nr (m * 2^c) K))) ((rsz F g (m * 2^c) : Nat) : Int) := by
   refine Ev.step (f := fun _ => some ((rsz F g (m * 2^c) : Nat) : Int)) (fun k => ?_) (Ev.now _)
   have w3 : wrap64 (((F.man : Nat) : Int) - 1) = ((F.man : Nat) : Int) - 1 := w64 (by omega) (by omega)
   have w4 : IntKind.u64.wrap (wrap64 (U - F.low)) = ((K - g : Nat) : Int) := by
    rw [w64 (x := U - F.low) (by omega) (by omega), wu64 (by omega) (by omega)]; omega
   have hhd : hdF F ≤ 4503599627370496 := (fm_hd h).2.2.1
   have hAh : (K - g) * hdF F ≤ 2200 * 4503599627370496 - 4503599627370496 := by
    have : (K - g) * hdF F ≤ 2199 * 4503599627370496 := Nat.mul_le_mul (by omega) hhd
    omega
   have hmn : ∀ a : Nat, mn (a : Int) ((F.inf : Nat) : Int) = ((min a F.inf : Nat) : Int) := by intro a; unfold mn; omega
   have er : rsz F g (m * 2^c) = min ((K - g) * hdF F + nr (m * 2^c) K) F.inf := by unfold rsz; rw [← hK]
   rw [round_widths_size.j0, inf_f h, w3, w4, shl_hd h hA, er]
   generalize nr (m * 2^c) K = u at *
   rw [lb_len]
   by_cases z : u = 0
   ·rw [z, show nl 0 = 0 from rfl, if_neg (by omega), if_pos (by omega)]
    simp only [Option.bind_some]
    rw [Int.add_zero, wu64 (by omega) (by omega), hmn]; rfl
   ·have n1 := nl_one z (by omega)
    have e2 : rd (lb u) 0 = (u : Int) := by
     have := lb_rd (x := u) (j := 0) (by omega)
     rw [show ((0 : Nat) : Int) = 0 from rfl] at this
     rw [this]
     unfold dw
     rw [pw_zero, Nat.div_one]
     omega
    rw [n1, if_pos (by decide), if_pos (by decide), if_pos (by omega), e2]
    simp only [Option.bind_some]
    rw [wu64 (by omega) (by omega), show (((K - g) * hdF F : Nat) : Int) + (u : Int) = (((K - g) * hdF F + u : Nat) : Int) by omega, hmn]
  by_cases c2 : U ≥ x
  ·refine Ev.congr (fun k => if_pos c2) ?_
   obtain ⟨n, hn⟩ : ∃ n : Nat, U - x = (n : Int) := ⟨(U - x).toNat, by omega⟩
   have w5 : wrap64 (U - x) = (n : Int) := by rw [w64 (by omega) (by omega), hn]
   rw [w5]
   have en : nr (m * 2^c) K = nr m n := by rw [show K = n + c by omega, nr_scale]
   rw [en] at hj
   refine Ev.bind (nearShr_ev (neg := false) hl (fun _ => rfl) (n := n) (by omega)) ?_
   exact hj
  ·refine Ev.congr (fun k => if_neg c2) ?_
   obtain ⟨d, hd⟩ : ∃ d : Nat, x - U = (d : Int) := ⟨(x - U).toNat, by omega⟩
   have w5 : wrap64 (x - U) = (d : Int) := by rw [w64 (by omega) (by omega), hd]
   rw [w5, numShl_f (neg := false) hl (fun _ => rfl) (.inr (by omega))]
   have en : nr (m * 2^c) K = m * 2^d := by rw [show c = d + K by omega, Nat.pow_add, ← Nat.mul_assoc, nr_whole]
   rw [en] at hj
   exact hj
def rnd (F : Fmt) (neg : Bool) (m : Nat) (x E : Int) : Nat := if m = 0 then 0 else pat F neg (rsz F (F.low - E).toNat (m * 2^(x - E).toNat))
theorem nearest_ev {f : Int} {F : Fmt} (h : Fm f F) {neg : Bool} {m : Nat} {x E : Int} (hd : Dk neg m x) (hE : E ≤ x) (hE2 : E ≤ F.low) : Ev (fun k => round_Nearest.f k f neg (lb m) x) (((rnd F neg m x E : Nat) : Int), 0) := by
 unfold round_Nearest.f
 rw [of_f h]
 simp only [Option.bind_some]
 have e0 : ((((F.man : Nat) : Int)) == 0 && (F.low == 0 && (((F.wd - 1 : Nat) : Int) == 0))) = false := by rcases h with ⟨_, rfl⟩ | ⟨_, rfl⟩ <;> rfl
 rw [e0]
 refine Ev.congr (fun k => if_neg (by decide)) ?_
 have f1 := form_ev neg (lb m) x
 rw [dyB_lb hd] at f1
 refine Ev.bind f1 (Ev.congr (fun k => if_pos rfl) ?_)
 unfold rnd
 rw [lb_len]
 by_cases c : m = 0
 ·refine Ev.congr (fun k => if_pos (by rw [c]; rfl)) ?_
  rw [if_pos c]
  exact Ev.now _
 ·have := nl_pos c
  refine Ev.congr (fun k => if_neg (by omega)) ?_
  rw [if_neg c]
  have hs : rsz F (F.low - E).toNat (m * 2^(x - E).toNat) < F.sg := by
   have := (rsz_nst h (F.low - E).toNat (m * 2^(x - E).toNat)).le
   have := h.sz
   omega
  refine Ev.bind (size_ev h c hd.lim ⟨hd.low, hd.high⟩ hE hE2) ?_
  rw [signed_f h neg hs]
  exact Ev.now _
theorem nearest_bad {f : Int} {F : Fmt} (h : Fm f F) {neg : Bool} {l : List Int} {x : Int} (hd : dyB neg l x = false) : Ev (fun k => round_Nearest.f k f neg l x) (0, 2) := by
 unfold round_Nearest.f
 rw [of_f h]
 simp only [Option.bind_some]
 have e0 : ((((F.man : Nat) : Int)) == 0 && (F.low == 0 && (((F.wd - 1 : Nat) : Int) == 0))) = false := by rcases h with ⟨_, rfl⟩ | ⟨_, rfl⟩ <;> rfl
 rw [e0]
 refine Ev.congr (fun k => if_neg (by decide)) ?_
 have f1 := form_ev neg l x
 rw [hd] at f1
 exact Ev.bind f1 (Ev.congr (fun k => if_neg (by decide)) (Ev.now _))
theorem nearest_no {f : Int} (h : f ≠ 32) (h' : f ≠ 64) (neg : Bool) (l : List Int) (x : Int) : Ev (fun k => round_Nearest.f k f neg l x) (0, 1) := by
 unfold round_Nearest.f
 rw [of_no h h']
 exact Ev.now _
end Go.Proofs.YtelfmddcjlocpaaGreatDoor.Rp3
end
section
namespace Go.Proofs.YtelfmddcjlocpaaGreatDoor.Rp4
open Go.RowKit Go.Proofs.YtelfmddcjlocpaaGreatDoorW.PrintWords Go.Proofs.YtelfmddcjlocpaaGreatDoorW.PrintMore Go.Proofs.YtelfmddcjlocpaaGreatDoor.Num Go.Proofs.YtelfmddcjlocpaaGreatDoor.PLib Go.Proofs.YtelfmddcjlocpaaGreatDoor.Ref Go.Proofs.YtelfmddcjlocpaaGreatDoor.GTh Go.Proofs.YtelfmddcjlocpaaGreatDoor.Given Go.Proofs.YtelfmddcjlocpaaGreatDoor.Rp1 Go.Proofs.YtelfmddcjlocpaaGreatDoor.Rp2 Go.Proofs.YtelfmddcjlocpaaGreatDoor.Rp3 Go.Proofs.YtelfmddcjlocpaaGreatDoor.BinLaw Go.Proofs.YtelfmddcjlocpaaGreatDoor.Fm8 Go.Proofs.YtelfmddcjlocpaaGreatDoor.Rnd
def vs (neg : Bool) (m : Nat) (x E : Int) : Int := if neg then -((m * 2^(x - E).toNat : Nat) : Int) else ((m * 2^(x - E).toNat : Nat) : Int)
theorem szc_vs {m m' : Nat} {x x' E : Int} (h : E ≤ x) (h' : E ≤ x') : szc m x m' x' = cmI (m * 2^(x - E).toNat) (m' * 2^(x' - E).toNat) := by
 unfold szc
 obtain ⟨d, hd⟩ : ∃ d : Nat, d = (min x x' - E).toNat := ⟨_, rfl⟩
 have e1 : (x - E).toNat = (x - min x x').toNat + d := by omega
 have e2 : (x' - E).toNat = (x' - min x x').toNat + d := by omega
 rw [e1, e2, Nat.pow_add, Nat.pow_add, ← Nat.mul_assoc, ← Nat.mul_assoc]
 generalize m * 2^(x - min x x').toNat = a
 generalize m' * 2^(x' - min x x').toNat = b
 have p := Nat.two_pow_pos d
 have i1 : a * 2^d < b * 2^d ↔ a < b := ⟨fun h => Nat.lt_of_mul_lt_mul_right h, fun h => Nat.mul_lt_mul_of_pos_right h p⟩
 have i2 : b * 2^d < a * 2^d ↔ b < a := ⟨fun h => Nat.lt_of_mul_lt_mul_right h, fun h => Nat.mul_lt_mul_of_pos_right h p⟩
 unfold cmI
 simp only [i1, i2]
def cmZ (a b : Int) : Int := if a < b then -1 else if b < a then 1 else 0
def pv (F : Fmt) (g : Nat) (V : Int) : Nat := if V = 0 then 0 else pat F (decide (V < 0)) (rsz F g V.natAbs)
theorem spanForm_ev {neg neg' : Bool} {m m' : Nat} {x x' : Int} (h : Dk neg m x) (h' : Dk neg' m' x') : Ev (fun k => span_Form.f k neg (lb m) x neg' (lb m') x') (decide (dcm neg m x neg' m' x' ≤ 0)) := by
 unfold span_Form.f span_cmp.f
 have f1 := form_ev neg (lb m) x
 have f2 := form_ev neg' (lb m') x'
 rw [dyB_lb h] at f1
 rw [dyB_lb h'] at f2
 refine Ev.bind f1 (Ev.congr (fun k => if_pos rfl) (Ev.bind f2 (Ev.congr (fun k => if_pos rfl) ?_)))
 exact Ev.bind (Ev.bind (dcmp_ev h h') (Ev.now _)) (Ev.now _)
theorem spanForm_bad {neg neg' : Bool} {l l' : List Int} {x x' : Int} (h : dyB neg l x = false ∨ dyB neg' l' x' = false) : Ev (fun k => span_Form.f k neg l x neg' l' x') false := by
 unfold span_Form.f
 have f1 := form_ev neg l x
 have f2 := form_ev neg' l' x'
 refine Ev.bind f1 ?_
 cases e : dyB neg l x
 ·exact Ev.congr (fun k => if_neg (by decide)) (Ev.now _)
 ·refine Ev.congr (fun k => if_pos rfl) (Ev.bind f2 ?_)
  rw [e] at h
  rw [h.resolve_left (by decide)]
  exact Ev.congr (fun k => if_neg (by decide)) (Ev.now _)
theorem wds {f : Int} {F : Fmt} (h : Fm f F) : ((((F.man : Nat) : Int)) == 0 && (F.low == 0 && (((F.wd - 1 : Nat) : Int) == 0))) = false := by rcases h with ⟨_, rfl⟩ | ⟨_, rfl⟩ <;> rfl
theorem decide_bad {f : Int} {F : Fmt} (hf : Fm f F) {neg neg' : Bool} {l l' : List Int} {x x' : Int} (h : dyB neg l x = false ∨ dyB neg' l' x' = false) : Ev (fun k => round_Decide.f k f neg l x neg' l' x') (0, false, 2) := by
 unfold round_Decide.f
 rw [of_f hf]
 simp only [Option.bind_some]
 rw [wds hf]
 refine Ev.congr (fun k => if_neg (by decide)) (Ev.bind (spanForm_bad h) ?_)
 exact Ev.congr (fun k => if_neg (by decide)) (Ev.now _)
theorem decide_gt {f : Int} {F : Fmt} (hf : Fm f F) {neg neg' : Bool} {m m' : Nat} {x x' : Int} (h : Dk neg m x) (h' : Dk neg' m' x') (c : ¬ dcm neg m x neg' m' x' ≤ 0) : Ev (fun k => round_Decide.f k f neg (lb m) x neg' (lb m') x') (0, false, 2) := by
 unfold round_Decide.f
 rw [of_f hf]
 simp only [Option.bind_some]
 rw [wds hf]
 refine Ev.congr (fun k => if_neg (by decide)) (Ev.bind (spanForm_ev h h') ?_)
 rw [decide_eq_false c]
 exact Ev.congr (fun k => if_neg (by decide)) (Ev.now _)
theorem decide_ok {f : Int} {F : Fmt} (hf : Fm f F) {neg neg' : Bool} {m m' : Nat} {x x' E : Int} (h : Dk neg m x) (h' : Dk neg' m' x') (c : dcm neg m x neg' m' x' ≤ 0) (h1 : E ≤ x) (h2 : E ≤ x') (h3 : E ≤ F.low) :
  Ev (fun k => round_Decide.f k f neg (lb m) x neg' (lb m') x') (if rnd F neg m x E = rnd F neg' m' x' E then (((rnd F neg m x E : Nat) : Int), true, 0) else (0, false, 0)) := by
 unfold round_Decide.f
 rw [of_f hf]
 simp only [Option.bind_some]
 rw [wds hf]
 refine Ev.congr (fun k => if_neg (by decide)) (Ev.bind (spanForm_ev h h') ?_)
 rw [decide_eq_true c]
 refine Ev.congr (fun k => if_pos rfl) (Ev.bind (nearest_ev hf h h1 h3) (Ev.bind (nearest_ev hf h' h2 h3) ?_))
 by_cases e : rnd F neg m x E = rnd F neg' m' x' E
 ·rw [if_pos e]
  exact Ev.congr (fun k => if_pos (by rw [e])) (Ev.now _)
 ·rw [if_neg e]
  exact Ev.congr (fun k => if_neg (by omega)) (Ev.now _)
end Go.Proofs.YtelfmddcjlocpaaGreatDoor.Rp4
end
