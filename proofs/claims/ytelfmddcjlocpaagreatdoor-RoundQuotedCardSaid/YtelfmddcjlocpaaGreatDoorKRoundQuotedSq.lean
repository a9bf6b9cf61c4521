/- The order of dyadics as the order of their values; Decide; calls on given numbers. Plain Lean over the printed functions. Conditions: numbers in form. What the printed functions of a format answer: take, finite, parts, classes, midpoints, cells, neighbours, ranks. Plain Lean over the printed functions. Conditions: words below 2^64. Sums, differences, twins and scaled numbers of dyadics: their values. Plain Lean over the printed functions. Conditions: values of at most 500,000 bits above the lowest unit. Rounding of quotients and of roots to the sizes of a format, and what a sticky bit tells of them. Plain Lean; no program in sight. No condition. -/
import Derived.Test.YtelfmddcjlocpaaGreatDoorKRoundQuotedRp3
import Derived.Test.YtelfmddcjlocpaaGreatDoorKRoundQuotedPRefx0
import Derived.Test.YtelfmddcjlocpaaGreatDoorKRoundQuotedPxL0
import Derived.Test.YtelfmddcjlocpaaGreatDoorKRoundQuotedPxQ0
import Derived.Test.YtelfmddcjlocpaaGreatDoorKRoundQuotedPxL1
import Derived.Test.YtelfmddcjlocpaaGreatDoorKRoundQuotedRp1
section
namespace Go.Proofs.YtelfmddcjlocpaaGreatDoor.Rp4
open Go.RowKit Go.Proofs.YtelfmddcjlocpaaGreatDoorW.PrintWords Go.Proofs.YtelfmddcjlocpaaGreatDoorW.PrintMore Go.Proofs.YtelfmddcjlocpaaGreatDoor.Num Go.Proofs.YtelfmddcjlocpaaGreatDoor.PLib Go.Proofs.YtelfmddcjlocpaaGreatDoor.Ref Go.Proofs.YtelfmddcjlocpaaGreatDoor.GTh Go.Proofs.YtelfmddcjlocpaaGreatDoor.Given Go.Proofs.YtelfmddcjlocpaaGreatDoor.Rp1 Go.Proofs.YtelfmddcjlocpaaGreatDoor.Rp2 Go.Proofs.YtelfmddcjlocpaaGreatDoor.Rp3 Go.Proofs.YtelfmddcjlocpaaGreatDoor.BinLaw Go.Proofs.YtelfmddcjlocpaaGreatDoor.Fm8 Go.Proofs.YtelfmddcjlocpaaGreatDoor.Rnd
def vs (neg : Bool) (m : Nat) (x E : Int) : Int := if neg then -((m * 2^(x - E).toNat : Nat) : Int) else ((m * 2^(x - E).toNat : Nat) : Int)
theorem szc_vs {m m' : Nat} {x x' E : Int} (h : E ≤ x) (h' : E ≤ x') : szc m x m' x' = cmI (m * 2^(x - E).toNat) (m' * 2^(x' - E).toNat) := by
 unfold szc
 obtain ⟨d, hd⟩ : ∃ d : Nat, d = (min x x' - E).toNat := ⟨_, rfl⟩
 have e1 : (x - E).toNat = (x - min x x').toNat + d := by omega
 have e2 : (x' - E).toNat = (x' - min x x').toNat + d := by omega
 rw [e1, e2, Nat.pow_add, Nat.pow_add, ← Nat.mul_assoc, ← Nat.mul_assoc]
 generalize m * 2^(x - min x x').toNat = a
 generalize m' * 2^(x' - min x x').toNat = b
 have p := Nat.two_pow_pos d
 have i1 : a * 2^d < b * 2^d ↔ a < b := ⟨fun h => Nat.lt_of_mul_lt_mul_right h, fun h => Nat.mul_lt_mul_of_pos_right h p⟩
 have i2 : b * 2^d < a * 2^d ↔ b < a := ⟨fun h => Nat.lt_of_mul_lt_mul_right h, fun h => Nat.mul_lt_mul_of_pos_right h p⟩
 unfold cmI
 simp only [i1, i2]
def pv (F : Fmt) (g : Nat) (V : Int) : Nat := if V = 0 then 0 else pat F (decide (V < 0)) (rsz F g V.natAbs)
theorem wds {f : Int} {F : Fmt} (h : Fm f F) : ((((F.man : Nat) : Int)) == 0 && (F.low == 0 && (((F.wd - 1 : Nat) : Int) == 0))) = false := by rcases h with ⟨_, rfl⟩ | ⟨_, rfl⟩ <;> rfl
theorem format_f (b : Bool) : ∃ (f : Int) (F : Fmt), Fm f F ∧ gnomonlaw08_format.f b = some f := by
 cases b
 ·exact ⟨64, fD, .inr ⟨rfl, rfl⟩, rfl⟩
 ·exact ⟨32, fS, .inl ⟨rfl, rfl⟩, rfl⟩
end Go.Proofs.YtelfmddcjlocpaaGreatDoor.Rp4
end
section
namespace Go.Proofs.YtelfmddcjlocpaaGreatDoor.Rp5
open Go.RowKit Go.Proofs.YtelfmddcjlocpaaGreatDoorW.PrintWords Go.Proofs.YtelfmddcjlocpaaGreatDoorW.PrintMore Go.Proofs.YtelfmddcjlocpaaGreatDoor.Num Go.Proofs.YtelfmddcjlocpaaGreatDoor.PLib Go.Proofs.YtelfmddcjlocpaaGreatDoor.Ref Go.Proofs.YtelfmddcjlocpaaGreatDoor.GTh Go.Proofs.YtelfmddcjlocpaaGreatDoor.Given Go.Proofs.YtelfmddcjlocpaaGreatDoor.Rp1 Go.Proofs.YtelfmddcjlocpaaGreatDoor.Rp2 Go.Proofs.YtelfmddcjlocpaaGreatDoor.Rp3 Go.Proofs.YtelfmddcjlocpaaGreatDoor.Rp4 Go.Proofs.YtelfmddcjlocpaaGreatDoor.BinLaw Go.Proofs.YtelfmddcjlocpaaGreatDoor.Fm8 Go.Proofs.YtelfmddcjlocpaaGreatDoor.Rnd
abbrev tk (F : Fmt) (neg : Bool) (s : Nat) (e : Int) : Int × Int × Int × Int × Bool × Int × Int := (F.wd, F.man, F.low, F.qt, neg, s, e)
theorem sign_f {f : Int} {F : Fmt} (h : Fm f F) : binary_shape_sign.f (F.wd : Nat) (F.man : Nat) F.low (F.qt : Nat) = some ((F.sg : Nat) : Int) := by
 rcases h with ⟨_, rfl⟩ | ⟨_, rfl⟩ <;> decide +kernel
theorem binf_f {f : Int} {F : Fmt} (h : Fm f F) : binary_shape_inf.f (F.wd : Nat) (F.man : Nat) F.low (F.qt : Nat) = some ((F.inf : Nat) : Int) := by
 rcases h with ⟨_, rfl⟩ | ⟨_, rfl⟩ <;> decide +kernel
theorem take_j {f : Int} {F : Fmt} (h : Fm f F) (k b : Nat) : binary_take.f k f (b : Int) = binary_take.j0 k (b : Int) (if F.wd = 32 then ((shr .u64 (b : Int) 32) != 0) else false) (F.wd : Nat) (F.man : Nat) F.low (F.qt : Nat) := by
 rcases h with ⟨rfl, rfl⟩ | ⟨rfl, rfl⟩ <;> rfl
theorem high_bits {f : Int} {F : Fmt} (h : Fm f F) (b : Nat) (hb : b < 18446744073709551616) : (if F.wd = 32 then ((shr .u64 (b : Int) 32) != 0) else false) = decide (2 * F.sg ≤ b) := by
 rcases h with ⟨rfl, rfl⟩ | ⟨rfl, rfl⟩
 ·have e : shr .u64 (b : Int) 32 = ((b / 4294967296 : Nat) : Int) := by
   have h2 := shr_small (k := .u64) (x := (b : Int)) (y := 32) rfl (by decide)
   rw [← h2]; rfl
  show ((shr .u64 (b : Int) 32) != 0) = decide (2 * 2147483648 ≤ b)
  rw [e]
  by_cases c : 4294967296 ≤ b
  ·rw [decide_eq_true c]; simp; omega
  ·rw [decide_eq_false c]; simp; omega
 ·show false = decide (2 * 9223372036854775808 ≤ b)
  rw [decide_eq_false (by omega)]
theorem take_ok {f : Int} {F : Fmt} (h : Fm f F) (b : Nat) (hb : b < 2 * F.sg) : Ev (fun k => binary_take.f k f (b : Int)) (tk F (decide (F.sg ≤ b)) (b % F.sg) 0) := by
 have hz := h.sz
 refine Ev.congr (fun k => take_j h k b) ?_
 rw [high_bits h b (by omega), decide_eq_false (by omega)]
 refine Ev.step (f := fun _ => some (tk F (decide (F.sg ≤ b)) (b % F.sg) 0)) (fun k => ?_) (Ev.now _)
 simp only [binary_take.j0, sign_f h, Option.bind_some]
 rw [if_neg (by decide), and_sg (fm_isF h) hb, andNot_sg (fm_isF h) hb]
theorem pat_mod (F : Fmt) (neg : Bool) {s : Nat} (hs : s < F.sg) : pat F neg s % F.sg = s := by
 unfold pat
 cases neg
 ·exact Nat.mod_eq_of_lt hs
 ·rw [if_pos rfl, Nat.add_mod_left, Nat.mod_eq_of_lt hs]
theorem pat_ge (F : Fmt) (neg : Bool) {s : Nat} (hs : s < F.sg) : decide (F.sg ≤ pat F neg s) = neg := by
 unfold pat
 cases neg
 ·rw [if_neg (by decide)]; exact decide_eq_false (by omega)
 ·rw [if_pos rfl]; exact decide_eq_true (by omega)
theorem pat_lt (F : Fmt) (neg : Bool) {s : Nat} (hs : s < F.sg) : pat F neg s < 2 * F.sg := by
 unfold pat
 cases neg
 ·rw [if_neg (by decide)]; omega
 ·rw [if_pos rfl]; omega
theorem take_pat {f : Int} {F : Fmt} (h : Fm f F) (neg : Bool) {s : Nat} (hs : s < F.sg) : Ev (fun k => binary_take.f k f ((pat F neg s : Nat) : Int)) (tk F neg s 0) := by
 have := take_ok h _ (pat_lt F neg hs)
 rwa [pat_ge F neg hs, pat_mod F neg hs] at this
def cl (F : Fmt) (s : Nat) : Int := if s = 0 then 0 else if s < hdF F then 1 else if s < F.inf then 2 else if s = F.inf then 3 else 4
theorem make_odd {neg : Bool} {m : Nat} {x : Int} (hl : nl m ≤ 8192) (ho : m % 2 = 1) (hx : -1048576 ≤ x) (hx2 : x ≤ 1048576) : Ev (fun k => dyadic_Make.f k neg (lb m) x) (neg, lb m, x, 0) := by
 have m0 : m ≠ 0 := by omega
 have ht : tz m = 0 := tz_eq ⟨m / 2, by rw [Nat.pow_zero]; omega⟩
 have p := nl_pos m0
 unfold dyadic_Make.f
 rw [numForm_lb hl (fun e => absurd e m0), trail_f hl m0, ht]
 simp only [Option.bind_some, if_true]
 have w : wrap64 (x + ((0 : Nat) : Int)) = x := by rw [w64 (by omega) (by omega)]; omega
 rw [w, lb_len]
 refine Ev.congr (fun k => if_neg (by omega)) (Ev.congr (fun k => if_neg (by omega)) (Ev.congr (fun k => if_neg (by omega)) (Ev.congr (fun k => if_neg (by omega)) (Ev.succ ?_))))
 rw [decide_eq_false (by omega)]
 simp only [dyadic_Make.j0]
 have e := shr_f (m := m) (n := 0) hl (by decide)
 rw [Nat.pow_zero, Nat.div_one] at e
 rw [e, w]
 exact Ev.now _
def rkI (neg : Bool) (s : Nat) : Int := if neg then -(s : Int) else s
theorem rank_pat {f : Int} {F : Fmt} (h : Fm f F) (neg : Bool) {s : Nat} (hs : s ≤ F.inf) : Ev (fun k => binary_rank.f k f ((pat F neg s : Nat) : Int)) (((F.wd : Nat) : Int), ((F.man : Nat) : Int), F.low, ((F.qt : Nat) : Int), rkI neg s, 0) := by
 have hz := h.sz
 unfold binary_rank.f
 refine Ev.bind (take_pat h neg (show s < F.sg by omega)) (Ev.congr (fun k => if_pos rfl) ?_)
 simp only
 rw [binf_f h]
 simp only [Option.bind_some]
 have w1 : wrap64 (s : Int) = (s : Int) := w64 (by omega) (by omega)
 refine Ev.congr (fun k => if_neg (by omega)) ?_
 rw [w1]
 unfold rkI
 cases neg
 ·rw [if_neg (by decide)]; exact Ev.now _
 ·rw [if_pos rfl, w64 (by omega) (by omega)]; exact Ev.now _
theorem lawRank_pat {f : Int} {F : Fmt} (h : Fm f F) (neg : Bool) {s : Nat} (hs : s ≤ F.inf) : Ev (fun k => gnomonlaw08_rank.f k f ((pat F neg s : Nat) : Int)) (rkI neg s) := by
 unfold gnomonlaw08_rank.f binary_Rank.f
 exact Ev.bind (Ev.bind (rank_pat h neg hs) (Ev.now _)) (Ev.now _)
end Go.Proofs.YtelfmddcjlocpaaGreatDoor.Rp5
end
section
set_option linter.unusedVariables false
namespace Go.Proofs.YtelfmddcjlocpaaGreatDoor.Rp7
open Go.RowKit Go.Proofs.YtelfmddcjlocpaaGreatDoorW.PrintWords Go.Proofs.YtelfmddcjlocpaaGreatDoorW.PrintMore Go.Proofs.YtelfmddcjlocpaaGreatDoor.Num Go.Proofs.YtelfmddcjlocpaaGreatDoor.PLib Go.Proofs.YtelfmddcjlocpaaGreatDoor.Ref Go.Proofs.YtelfmddcjlocpaaGreatDoor.GTh Go.Proofs.YtelfmddcjlocpaaGreatDoor.Given Go.Proofs.YtelfmddcjlocpaaGreatDoor.Rp1 Go.Proofs.YtelfmddcjlocpaaGreatDoor.Rp2 Go.Proofs.YtelfmddcjlocpaaGreatDoor.Rp3 Go.Proofs.YtelfmddcjlocpaaGreatDoor.Rp4 Go.Proofs.YtelfmddcjlocpaaGreatDoor.Rp5 Go.Proofs.YtelfmddcjlocpaaGreatDoor.BinLaw Go.Proofs.YtelfmddcjlocpaaGreatDoor.Fm8 Go.Proofs.YtelfmddcjlocpaaGreatDoor.Rnd
def sv (neg : Bool) (m : Nat) : Int := if neg then -(m : Int) else (m : Int)
theorem vs_sv (neg : Bool) (m : Nat) (x E : Int) : vs neg m x E = sv neg (m * 2^(x - E).toNat) := rfl
theorem sv_abs (neg : Bool) (m : Nat) : (sv neg m).natAbs = m := by
 cases neg
 ·show (m : Int).natAbs = m; omega
 ·show (-(m : Int)).natAbs = m; omega
theorem sv_zero (neg : Bool) : sv neg 0 = 0 := by cases neg <;> rfl
structure Dy (E : Int) (neg : Bool) (m : Nat) (x V : Int) : Prop where mk :: (dk : Dk neg m x) (le : E ≤ x) (va : vs neg m x E = V)
theorem Dy.abs {E : Int} {neg : Bool} {m : Nat} {x V : Int} (h : Dy E neg m x V) : V.natAbs = m * 2^(x - E).toNat := by rw [← h.va, vs_sv, sv_abs]
theorem Dy.zero {E : Int} {neg : Bool} {m : Nat} {x V : Int} (h : Dy E neg m x V) : m = 0 ↔ V = 0 := by
 have e := h.abs
 have hp := Nat.two_pow_pos (x - E).toNat
 constructor
 ·intro c; rw [c, Nat.zero_mul] at e; omega
 ·intro c
  rw [c] at e
  rcases Nat.mul_eq_zero.1 e.symm with c1 | c1
  ·exact c1
  ·omega
theorem Dy.bl {E : Int} {neg : Bool} {m : Nat} {x V : Int} (h : Dy E neg m x V) (h0 : m ≠ 0) : bl m + (x - E).toNat = bl V.natAbs := by rw [h.abs, bl_mul _ _ h0]
theorem Dy.neg {E : Int} {neg : Bool} {m : Nat} {x V : Int} (h : Dy E neg m x V) : neg = decide (V < 0) := by
 have e := h.va
 have z := h.zero
 have a := h.abs
 rw [vs_sv] at e
 cases neg
 ·rw [decide_eq_false]
  show ¬ V < 0
  have : sv false (m * 2^(x - E).toNat) = ((m * 2^(x - E).toNat : Nat) : Int) := rfl
  omega
 ·rw [decide_eq_true]
  have m0 : m ≠ 0 := fun c => absurd (h.dk.zero c).1 (by decide)
  have : sv true (m * 2^(x - E).toNat) = -((m * 2^(x - E).toNat : Nat) : Int) := rfl
  have v0 : V ≠ 0 := fun c => m0 (z.2 c)
  omega
theorem make_dy {neg : Bool} {m : Nat} {x E V : Int} (hl : nl m ≤ 8192) (hz : m = 0 → neg = false) (h1 : -1048576 ≤ E) (h0 : E ≤ 0) (hE : E ≤ x) (hv : vs neg m x E = V) (hb : bl V.natAbs ≤ 1000000) :
  ∃ n m' x', Dy E n m' x' V ∧ Ev (fun k => dyadic_Make.f k neg (lb m) x) (n, lb m', x', 0) := by
 unfold dyadic_Make.f
 rw [numForm_lb hl hz]
 simp only [Option.bind_some, if_true]
 by_cases m0 : m = 0
 ·subst m0
  refine ⟨false, 0, 0, ⟨⟨by decide, fun _ => ⟨rfl, rfl⟩, fun c => absurd rfl c, by decide, by decide⟩, h0, ?_⟩, ?_⟩
  ·rw [← hv, vs_sv, vs_sv, Nat.zero_mul, Nat.zero_mul, sv_zero, sv_zero]
  ·exact Ev.congr (fun k => if_pos rfl) (Ev.now _)
 obtain ⟨c, hc⟩ := tz_spec m0
 have ha : bl m + (x - E).toNat = bl V.natAbs := by rw [← bl_mul _ _ m0, ← hv, vs_sv, sv_abs]
 have ht : tz m < bl m := by
  rcases Nat.lt_or_ge (tz m) (bl m) with q | q
  ·exact q
  ·have := bl_lt m
   have := Nat.pow_le_pow_right (n := 2) (by decide) q
   have := Nat.le_mul_of_pos_right (2^tz m) (show 0 < 2 * c + 1 by omega)
   omega
 have hm' : m / 2^tz m = 2 * c + 1 := by
  have : (2^tz m * (2 * c + 1)) / 2^tz m = 2 * c + 1 := Nat.mul_div_cancel_left _ (Nat.two_pow_pos _)
  rw [← hc] at this; exact this
 have p := nl_pos m0
 have w : wrap64 (x + ((tz m : Nat) : Int)) = x + (tz m : Nat) := w64 (by omega) (by omega)
 rw [trail_f hl m0]
 simp only [Option.bind_some]
 rw [w, lb_len]
 refine ⟨neg, m / 2^tz m, x + (tz m : Nat), ⟨⟨?_, fun e => by omega, fun _ => by omega, by omega, by omega⟩, by omega, ?_⟩, ?_⟩
 ·exact Nat.le_trans (nl_mono (Nat.div_le_self _ _)) hl
 ·rw [← hv, vs_sv, vs_sv, hm', show (x + ((tz m : Nat) : Int) - E).toNat = tz m + (x - E).toNat by omega, Nat.pow_add, ← Nat.mul_assoc, Nat.mul_comm (2 * c + 1), ← hc]
 ·refine Ev.congr (fun k => if_neg (by omega)) (Ev.congr (fun k => if_neg (by omega)) (Ev.congr (fun k => if_neg (by omega)) (Ev.congr (fun k => if_neg (by omega)) (Ev.succ ?_))))
  rw [decide_eq_false (by omega)]
  simp only [dyadic_Make.j0]
  rw [shr_f hl (by omega), w]
  exact Ev.now _
theorem bl_add {a b k : Nat} (ha : bl a ≤ k) (hb : bl b ≤ k) : bl (a + b) ≤ k + 1 := by
 have q1 := Nat.lt_of_lt_of_le (bl_lt a) (Nat.pow_le_pow_right (by decide) ha)
 have q2 := Nat.lt_of_lt_of_le (bl_lt b) (Nat.pow_le_pow_right (by decide) hb)
 exact bl_le_of_lt (by rw [Nat.pow_succ]; omega)
theorem nought_f (neg : Bool) (m : Nat) (x : Int) : dyadic_nought.f neg (lb m) x = some (decide (m = 0)) := by
 unfold dyadic_nought.f
 rw [lb_len]
 by_cases c : m = 0
 ·subst c; rfl
 ·have := nl_pos c
  rw [decide_eq_false c, show (((nl m : Nat) : Int) == 0) = false from by rw [beq_eq_false_iff_ne]; omega]
theorem twin_f (neg : Bool) {m : Nat} (x : Int) (h : nl m ≤ 8192) : dyadic_twin.f neg (lb m) x = some (neg, lb m, x) := by
 unfold dyadic_twin.f slices_Clone_uint64_uint64.f
 rw [if_pos (by rw [lb_len]; omega)]
 rfl
theorem form_dk {neg : Bool} {m : Nat} {x : Int} (h : Dk neg m x) : Ev (fun k => dyadic_Form.f k neg (lb m) x) true := by
 have := form_ev neg (lb m) x
 rwa [dyB_lb h] at this
theorem mn_min (a b : Int) : mn a b = min a b := by unfold mn; split <;> omega
end Go.Proofs.YtelfmddcjlocpaaGreatDoor.Rp7
end
section
set_option linter.unusedVariables false
namespace Go.Proofs.YtelfmddcjlocpaaGreatDoor.Sq
open Go.Proofs.YtelfmddcjlocpaaGreatDoor.BinLaw Go.Proofs.YtelfmddcjlocpaaGreatDoor.Ref Go.Proofs.YtelfmddcjlocpaaGreatDoor.Fm8 Go.Proofs.YtelfmddcjlocpaaGreatDoor.Rnd
structure Nq (F : Fmt) (n d s : Nat) : Prop where mk ::
 (le : s ≤ F.inf)
 (up : s < F.inf → 2 * n < md F 0 s * d ∨ (2 * n = md F 0 s * d ∧ s % 2 = 0))
 (dn : ∀ t, s = t + 1 → md F 0 t * d < 2 * n ∨ (md F 0 t * d = 2 * n ∧ s % 2 = 0))
theorem md_g (F : Fmt) (g s : Nat) : md F g s = md F 0 s * 2^g := by unfold md; rw [Nat.pow_zero, Nat.mul_one]
theorem nq_of_nst {F : Fmt} {g V s : Nat} (h : Nst F g V s) : Nq F V (2^g) s :=
 ⟨h.le, fun c => by rw [← md_g]; exact h.up c, fun t e => by rw [← md_g]; exact h.dn t e⟩
theorem nst_of_nq {F : Fmt} {g V s : Nat} (h : Nq F V (2^g) s) : Nst F g V s :=
 ⟨h.le, fun c => by rw [md_g]; exact h.up c, fun t e => by rw [md_g]; exact h.dn t e⟩
theorem nq_mono {f : Int} {F : Fmt} (h : Fm f F) {n d n' d' s s' : Nat} (hd : 0 < d) (hd' : 0 < d') (hV : n * d' ≤ n' * d) (a : Nq F n d s) (b : Nq F n' d' s') : s ≤ s' := by
 rcases Nat.lt_or_ge s' s with c | c
 ·exfalso
  obtain ⟨t, rfl⟩ : ∃ t, s = t + 1 := ⟨s - 1, by omega⟩
  have a1 := a.dn t rfl
  have b1 := b.up (by have := a.le; omega)
  have m1 := md_le h (g := 0) (show s' ≤ t by omega)
  have x1 : md F 0 t * d * d' ≤ 2 * n * d' := Nat.mul_le_mul_right _ (by omega)
  have x2 : 2 * n' * d ≤ md F 0 s' * d' * d := Nat.mul_le_mul_right _ (by omega)
  have x3 : 2 * (n * d') ≤ 2 * (n' * d) := Nat.mul_le_mul_left _ hV
  have e1 : 2 * n * d' = 2 * (n * d') := Nat.mul_assoc _ _ _
  have e2 : 2 * n' * d = 2 * (n' * d) := Nat.mul_assoc _ _ _
  have e3 : md F 0 s' * d' * d = md F 0 s' * d * d' := by rw [Nat.mul_right_comm]
  rcases Nat.lt_or_eq_of_le (show s' ≤ t by omega) with q | q
  ·have l := md_lt h (g := 0) q
   have l2 : md F 0 s' * d * d' < md F 0 t * d * d' := Nat.mul_lt_mul_of_pos_right (Nat.mul_lt_mul_of_pos_right l hd) hd'
   omega
  ·subst q
   rcases a1 with a1 | ⟨a1, a2⟩
   ·have y : md F 0 s' * d * d' < 2 * n * d' := Nat.mul_lt_mul_of_pos_right a1 hd'
    omega
   ·rcases b1 with b1 | ⟨b1, b2⟩
    ·have y : 2 * n' * d < md F 0 s' * d' * d := Nat.mul_lt_mul_of_pos_right b1 hd
     omega
    ·omega
 ·exact c
theorem nq_uniq {f : Int} {F : Fmt} (h : Fm f F) {n d s s' : Nat} (hd : 0 < d) (a : Nq F n d s) (b : Nq F n d s') : s = s' :=
 Nat.le_antisymm (nq_mono h hd hd (Nat.le_refl _) a b) (nq_mono h hd hd (Nat.le_refl _) b a)
theorem nq_scale {F : Fmt} {n d s c : Nat} (hc : 0 < c) (h : Nq F (n * c) (d * c) s) : Nq F n d s := by
 have e : ∀ M, M * (d * c) = M * d * c := fun M => (Nat.mul_assoc _ _ _).symm
 have e2 : 2 * (n * c) = 2 * n * c := (Nat.mul_assoc _ _ _).symm
 refine ⟨h.le, fun k => ?_, fun t k => ?_⟩
 ·have := h.up k
  rw [e, e2] at this
  rcases this with q | ⟨q, q2⟩
  ·exact .inl (Nat.lt_of_mul_lt_mul_right q)
  ·exact .inr ⟨Nat.eq_of_mul_eq_mul_right hc q, q2⟩
 ·have := h.dn t k
  rw [e, e2] at this
  rcases this with q | ⟨q, q2⟩
  ·exact .inl (Nat.lt_of_mul_lt_mul_right q)
  ·exact .inr ⟨Nat.eq_of_mul_eq_mul_right hc q, q2⟩
theorem md_odd {f : Int} {F : Fmt} (h : Fm f F) (s : Nat) : md F 0 s = (2 * mgF F s + 1) * 2^(dF F s) := by
 unfold md
 rw [nF_next h, Nat.pow_zero, Nat.mul_one]
 unfold nF
 rw [Nat.add_mul, Nat.one_mul, Nat.mul_assoc 2]
 omega
theorem mg_lt2 {f : Int} {F : Fmt} (h : Fm f F) (s : Nat) : 2 * mgF F s + 1 < 2^(F.man + 1) := by
 obtain ⟨h0, -, -, -, -, hm, -, -, hm1⟩ := fm_hd h
 have e : 2^(F.man + 1) = 4 * hdF F := by
  rw [hm, show F.man + 1 = (F.man - 1) + 2 by omega, Nat.pow_add]
  omega
 have := Nat.mod_lt s h0
 unfold mgF
 split <;> omega
theorem md_or {f : Int} {F : Fmt} (h : Fm f F) (s g k : Nat) : (∃ c, md F 0 s * 2^g = 2^k * c) ∨ md F 0 s * 2^g < 2^(F.man + k) := by
 rw [md_odd h, Nat.mul_assoc, ← Nat.pow_add]
 by_cases c : k ≤ dF F s + g
 ·left
  refine ⟨(2 * mgF F s + 1) * 2^(dF F s + g - k), ?_⟩
  rw [Nat.mul_left_comm, ← Nat.pow_add]
  congr 2
  omega
 ·right
  have l := mg_lt2 h s
  have e : 2^(F.man + k) = 2^(F.man + 1) * 2^(k - 1) := by rw [← Nat.pow_add]; congr 1; omega
  rw [e]
  have p : 2^(dF F s + g) ≤ 2^(k - 1) := Nat.pow_le_pow_right (by decide) (by omega)
  exact Nat.lt_of_le_of_lt (Nat.mul_le_mul_left _ p) (Nat.mul_lt_mul_of_pos_right l (Nat.two_pow_pos _))
def stk (q r : Nat) : Nat := 2 * q + if r = 0 then 0 else 1
theorem le_even {q w c : Nat} (h : (2 * q + 1) * w ≤ w * 2 * c) (hw : 0 < w) : (2 * q + 2) * w ≤ w * 2 * c := by
 have e : w * 2 * c = (2 * c) * w := by rw [Nat.mul_assoc, Nat.mul_comm]
 rw [e] at h ⊢
 have := Nat.le_of_mul_le_mul_right h hw
 exact Nat.mul_le_mul_right _ (by omega)
theorem ge_even {q w c : Nat} (h : w * 2 * c ≤ (2 * q + 1) * w) (hw : 0 < w) : w * 2 * c ≤ 2 * q * w := by
 have e : w * 2 * c = (2 * c) * w := by rw [Nat.mul_assoc, Nat.mul_comm]
 rw [e] at h ⊢
 have := Nat.le_of_mul_le_mul_right h hw
 exact Nat.mul_le_mul_right _ (by omega)
theorem stk_up {f : Int} {F : Fmt} (h : Fm f F) {q K g s : Nat} (hq : 2^(F.man + 2) ≤ q) (c : 2 * ((2 * q + 1) * 2^K) ≤ md F 0 s * 2^g) : 2 * ((2 * q + 2) * 2^K) ≤ md F 0 s * 2^g := by
 have p := Nat.two_pow_pos K
 have e : ∀ x, 2 * (x * 2^K) = x * 2^(K + 1) := fun x => by rw [Nat.pow_succ]; rw [Nat.mul_left_comm, Nat.mul_comm 2]
 rw [e] at c ⊢
 rcases md_or h s g (K + 2) with ⟨d, hd⟩ | hd
 ·rw [hd, show K + 2 = K + 1 + 1 from rfl, Nat.pow_succ 2 (K + 1)] at c ⊢
  exact le_even c (Nat.two_pow_pos _)
 ·exfalso
  have e2 : 2^(F.man + (K + 2)) = 2^(F.man + 1) * 2^(K + 1) := by rw [← Nat.pow_add]; congr 1; omega
  have l : 2^(F.man + 1) * 2^(K + 1) ≤ (2 * q + 1) * 2^(K + 1) := Nat.mul_le_mul_right _ (by
   have : 2^(F.man + 2) = 2 * 2^(F.man + 1) := by rw [Nat.pow_succ, Nat.mul_comm]
   omega)
  omega
theorem stk_dn {f : Int} {F : Fmt} (h : Fm f F) {q K g s : Nat} (hq : 2^(F.man + 2) ≤ q) (c : md F 0 s * 2^g ≤ 2 * ((2 * q + 1) * 2^K)) : md F 0 s * 2^g ≤ 2 * (2 * q * 2^K) := by
 have p := Nat.two_pow_pos K
 have e : ∀ x, 2 * (x * 2^K) = x * 2^(K + 1) := fun x => by rw [Nat.pow_succ]; rw [Nat.mul_left_comm, Nat.mul_comm 2]
 rw [e] at c ⊢
 rcases md_or h s g (K + 2) with ⟨d, hd⟩ | hd
 ·rw [hd, show K + 2 = K + 1 + 1 from rfl, Nat.pow_succ 2 (K + 1)] at c ⊢
  exact ge_even c (Nat.two_pow_pos _)
 ·have e2 : 2^(F.man + (K + 2)) = 2^(F.man + 1) * 2^(K + 1) := by rw [← Nat.pow_add]; congr 1; omega
  have l : 2^(F.man + 1) * 2^(K + 1) ≤ 2 * q * 2^(K + 1) := Nat.mul_le_mul_right _ (by
   have : 2^(F.man + 2) = 2 * 2^(F.man + 1) := by rw [Nat.pow_succ, Nat.mul_comm]
   omega)
  omega
theorem stk_quo {f : Int} {F : Fmt} (h : Fm f F) {x b K g s : Nat} (hb : 0 < b) (hq : 2^(F.man + 2) ≤ x / b) (a : Nst F g (stk (x / b) (x % b) * 2^K) s) : Nq F (x * 2^(K + 1)) (b * 2^g) s := by
 have dm := Nat.div_add_mod x b
 have lt := Nat.mod_lt x hb
 have pk := Nat.two_pow_pos K
 obtain ⟨q, eq⟩ : ∃ q, q = x / b := ⟨_, rfl⟩
 obtain ⟨r, er⟩ : ∃ r, r = x % b := ⟨_, rfl⟩
 rw [← eq, ← er] at a
 rw [← eq, ← er] at dm
 rw [← eq] at hq
 rw [← er] at lt
 have ex : 2 * (x * 2^(K + 1)) = 2 * (2 * x) * 2^K := by rw [Nat.pow_succ]; ac_rfl
 have eb : ∀ M, M * (b * 2^g) = M * 2^g * b := fun M => by ac_rfl
 by_cases r0 : r = 0
 ·have e0 : stk q r = 2 * q := by unfold stk; rw [if_pos r0]; rfl
  rw [e0] at a
  have e1 : x = q * b := by rw [← dm, r0, Nat.add_zero, Nat.mul_comm]
  have e2 : 2 * (x * 2^(K + 1)) = 2 * (2 * q * 2^K) * b := by rw [ex, e1]; ac_rfl
  refine ⟨a.le, fun c => ?_, fun t c => ?_⟩
  ·rw [e2, eb]
   rcases a.up c with y | ⟨y, y2⟩
   ·rw [md_g] at y; exact .inl (Nat.mul_lt_mul_of_pos_right y hb)
   ·rw [md_g] at y; exact .inr ⟨by rw [y], y2⟩
  ·rw [e2, eb]
   rcases a.dn t c with y | ⟨y, y2⟩
   ·rw [md_g] at y; exact .inl (Nat.mul_lt_mul_of_pos_right y hb)
   ·rw [md_g] at y; exact .inr ⟨by rw [y], y2⟩
 ·have e0 : stk q r = 2 * q + 1 := by unfold stk; rw [if_neg r0]
  rw [e0] at a
  have l1 : 2 * x < (2 * q + 2) * b := by
   have : (2 * q + 2) * b = 2 * (b * q) + 2 * b := by rw [Nat.add_mul, Nat.mul_assoc, Nat.mul_comm q]
   omega
  have l2 : 2 * q * b < 2 * x := by
   have : 2 * q * b = 2 * (b * q) := by rw [Nat.mul_assoc, Nat.mul_comm q]
   omega
  refine ⟨a.le, fun c => .inl ?_, fun t c => .inl ?_⟩
  ·have y : 2 * ((2 * q + 1) * 2^K) ≤ md F 0 s * 2^g := by rw [← md_g]; have := a.up c; omega
   have z := Nat.mul_le_mul_right b (stk_up h hq y)
   rw [ex, eb]
   refine Nat.lt_of_lt_of_le ?_ z
   have e3 : 2 * ((2 * q + 2) * 2^K) * b = 2 * ((2 * q + 2) * b) * 2^K := by ac_rfl
   rw [e3]
   exact Nat.mul_lt_mul_of_pos_right (by omega) pk
  ·have y : md F 0 t * 2^g ≤ 2 * ((2 * q + 1) * 2^K) := by rw [← md_g]; have := a.dn t c; omega
   have z := Nat.mul_le_mul_right b (stk_dn h hq y)
   rw [ex, eb]
   refine Nat.lt_of_le_of_lt z ?_
   have e3 : 2 * (2 * q * 2^K) * b = 2 * (2 * q * b) * 2^K := by ac_rfl
   rw [e3]
   exact Nat.mul_lt_mul_of_pos_right (by omega) pk
end Go.Proofs.YtelfmddcjlocpaaGreatDoor.Sq
end
