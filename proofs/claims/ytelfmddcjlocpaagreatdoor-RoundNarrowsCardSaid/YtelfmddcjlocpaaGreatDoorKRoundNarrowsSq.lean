/- Sums, differences, twins and scaled numbers of dyadics: their values. Plain Lean over the printed functions. Conditions: values of at most 500,000 bits above the lowest unit. Rounding of quotients and of roots to the sizes of a format, and what a sticky bit tells of them. Plain Lean; no program in sight. No condition. -/
import Derived.Test.YtelfmddcjlocpaaGreatDoorKRoundNarrowsRp5
import Derived.Test.YtelfmddcjlocpaaGreatDoorKRoundNarrowsPRefx0
import Derived.Test.YtelfmddcjlocpaaGreatDoorKRoundNarrowsRnd
section
set_option linter.unusedVariables false
namespace Go.Proofs.YtelfmddcjlocpaaGreatDoor.Rp7
open Go.RowKit Go.Proofs.YtelfmddcjlocpaaGreatDoorW.PrintWords Go.Proofs.YtelfmddcjlocpaaGreatDoorW.PrintMore Go.Proofs.YtelfmddcjlocpaaGreatDoor.Num Go.Proofs.YtelfmddcjlocpaaGreatDoor.PLib Go.Proofs.YtelfmddcjlocpaaGreatDoor.Ref Go.Proofs.YtelfmddcjlocpaaGreatDoor.GTh Go.Proofs.YtelfmddcjlocpaaGreatDoor.Given Go.Proofs.YtelfmddcjlocpaaGreatDoor.Rp1 Go.Proofs.YtelfmddcjlocpaaGreatDoor.Rp2 Go.Proofs.YtelfmddcjlocpaaGreatDoor.Rp3 Go.Proofs.YtelfmddcjlocpaaGreatDoor.Rp4 Go.Proofs.YtelfmddcjlocpaaGreatDoor.Rp5 Go.Proofs.YtelfmddcjlocpaaGreatDoor.BinLaw Go.Proofs.YtelfmddcjlocpaaGreatDoor.Fm8 Go.Proofs.YtelfmddcjlocpaaGreatDoor.Rnd
def sv (neg : Bool) (m : Nat) : Int := if neg then -(m : Int) else (m : Int)
theorem vs_sv (neg : Bool) (m : Nat) (x E : Int) : vs neg m x E = sv neg (m * 2^(x - E).toNat) := rfl
theorem sv_abs (neg : Bool) (m : Nat) : (sv neg m).natAbs = m := by
 cases neg
 ·show (m : Int).natAbs = m; omega
 ·show (-(m : Int)).natAbs = m; omega
theorem sv_zero (neg : Bool) : sv neg 0 = 0 := by cases neg <;> rfl
structure Dy (E : Int) (neg : Bool) (m : Nat) (x V : Int) : Prop where mk :: (dk : Dk neg m x) (le : E ≤ x) (va : vs neg m x E = V)
theorem Dy.abs {E : Int} {neg : Bool} {m : Nat} {x V : Int} (h : Dy E neg m x V) : V.natAbs = m * 2^(x - E).toNat := by rw [← h.va, vs_sv, sv_abs]
theorem Dy.zero {E : Int} {neg : Bool} {m : Nat} {x V : Int} (h : Dy E neg m x V) : m = 0 ↔ V = 0 := by
 have e := h.abs
 have hp := Nat.two_pow_pos (x - E).toNat
 constructor
 ·intro c; rw [c, Nat.zero_mul] at e; omega
 ·intro c
  rw [c] at e
  rcases Nat.mul_eq_zero.1 e.symm with c1 | c1
  ·exact c1
  ·omega
theorem Dy.bl {E : Int} {neg : Bool} {m : Nat} {x V : Int} (h : Dy E neg m x V) (h0 : m ≠ 0) : bl m + (x - E).toNat = bl V.natAbs := by rw [h.abs, bl_mul _ _ h0]
theorem Dy.neg {E : Int} {neg : Bool} {m : Nat} {x V : Int} (h : Dy E neg m x V) : neg = decide (V < 0) := by
 have e := h.va
 have z := h.zero
 have a := h.abs
 rw [vs_sv] at e
 cases neg
 ·rw [decide_eq_false]
  show ¬ V < 0
  have : sv false (m * 2^(x - E).toNat) = ((m * 2^(x - E).toNat : Nat) : Int) := rfl
  omega
 ·rw [decide_eq_true]
  have m0 : m ≠ 0 := fun c => absurd (h.dk.zero c).1 (by decide)
  have : sv true (m * 2^(x - E).toNat) = -((m * 2^(x - E).toNat : Nat) : Int) := rfl
  have v0 : V ≠ 0 := fun c => m0 (z.2 c)
  omega
theorem make_dy {neg : Bool} {m : Nat} {x E V : Int} (hl : nl m ≤ 8192) (hz : m = 0 → neg = false) (h1 : -1048576 ≤ E) (h0 : E ≤ 0) (hE : E ≤ x) (hv : vs neg m x E = V) (hb : bl V.natAbs ≤ 1000000) :
  ∃ n m' x', Dy E n m' x' V ∧ Ev (fun k => dyadic_Make.f k neg (lb m) x) (n, lb m', x', 0) := by
 unfold dyadic_Make.f
 rw [numForm_lb hl hz]
 simp only [Option.bind_some, if_true]
 by_cases m0 : m = 0
 ·subst m0
  refine ⟨false, 0, 0, ⟨⟨by decide, fun _ => ⟨rfl, rfl⟩, fun c => absurd rfl c, by decide, by decide⟩, h0, ?_⟩, ?_⟩
  ·rw [← hv, vs_sv, vs_sv, Nat.zero_mul, Nat.zero_mul, sv_zero, sv_zero]
  ·exact Ev.congr (fun k => if_pos rfl) (Ev.now _)
 obtain ⟨c, hc⟩ := tz_spec m0
 have ha : bl m + (x - E).toNat = bl V.natAbs := by rw [← bl_mul _ _ m0, ← hv, vs_sv, sv_abs]
 have ht : tz m < bl m := by
  rcases Nat.lt_or_ge (tz m) (bl m) with q | q
  ·exact q
  ·have := bl_lt m
   have := Nat.pow_le_pow_right (n := 2) (by decide) q
   have := Nat.le_mul_of_pos_right (2^tz m) (show 0 < 2 * c + 1 by omega)
   omega
 have hm' : m / 2^tz m = 2 * c + 1 := by
  have : (2^tz m * (2 * c + 1)) / 2^tz m = 2 * c + 1 := Nat.mul_div_cancel_left _ (Nat.two_pow_pos _)
  rw [← hc] at this; exact this
 have p := nl_pos m0
 have w : wrap64 (x + ((tz m : Nat) : Int)) = x + (tz m : Nat) := w64 (by omega) (by omega)
 rw [trail_f hl m0]
 simp only [Option.bind_some]
 rw [w, lb_len]
 refine ⟨neg, m / 2^tz m, x + (tz m : Nat), ⟨⟨?_, fun e => by omega, fun _ => by omega, by omega, by omega⟩, by omega, ?_⟩, ?_⟩
 ·exact Nat.le_trans (nl_mono (Nat.div_le_self _ _)) hl
 ·rw [← hv, vs_sv, vs_sv, hm', show (x + ((tz m : Nat) : Int) - E).toNat = tz m + (x - E).toNat by omega, Nat.pow_add, ← Nat.mul_assoc, Nat.mul_comm (2 * c + 1), ← hc]
 ·refine Ev.congr (fun k => if_neg (by omega)) (Ev.congr (fun k => if_neg (by omega)) (Ev.congr (fun k => if_neg (by omega)) (Ev.congr (fun k => if_neg (by omega)) (Ev.succ ?_))))
  rw [decide_eq_false (by omega)]
  simp only [dyadic_Make.j0]
  rw [shr_f hl (by omega), w]
  exact Ev.now _
theorem mn_min (a b : Int) : mn a b = min a b := by unfold mn; split <;> omega
theorem value_pat {f : Int} {F : Fmt} (h : Fm f F) (neg : Bool) {s : Nat} (hs : s < F.inf) {E : Int} (h1 : -100000 ≤ E) (hE : E ≤ F.low) :
  ∃ n m x, Dy E n m x (sv neg (nF F s * 2^(F.low - E).toNat)) ∧ Ev (fun k => binary_Value.f k f ((pat F neg s : Nat) : Int)) (n, lb m, x, 0) := by
 have hs2 : s < F.sg := by have := h.sz; omega
 have hmg := mg_lt h s
 have hdf := dF_le h hs2
 have hfm := fm_man h
 have hl : nl (mgF F s) ≤ 8192 := by
  by_cases c : mgF F s = 0
  ·rw [c]; decide
  ·rw [nl_one c (by omega)]; decide
 have hv : ∀ n, (mgF F s = 0 ∨ n = neg) → vs n (mgF F s) (xpF F s) E = sv neg (nF F s * 2^(F.low - E).toNat) := by
  intro n hn
  have e : mgF F s * 2^(xpF F s - E).toNat = nF F s * 2^(F.low - E).toNat := by
   unfold nF
   rw [Nat.mul_assoc, ← Nat.pow_add, xp_d, show (F.low + ((dF F s : Nat) : Int) - E).toNat = dF F s + (F.low - E).toNat by omega]
  rw [vs_sv, e]
  rcases hn with c | c
  ·unfold nF
   rw [c, Nat.zero_mul, Nat.zero_mul, sv_zero, sv_zero]
  ·rw [c]
 have hx := xp_d F s
 have hb : bl (sv neg (nF F s * 2^(F.low - E).toNat)).natAbs ≤ 1000000 := by
  rw [sv_abs]
  by_cases c : nF F s = 0
  ·rw [c, Nat.zero_mul]; decide
  ·rw [bl_mul _ _ c]
   have cm : mgF F s ≠ 0 := by intro e; apply c; unfold nF; rw [e, Nat.zero_mul]
   have : bl (nF F s) ≤ 53 + 2048 := by
    unfold nF
    rw [bl_mul _ _ cm]
    have : bl (mgF F s) ≤ 53 := bl_le_of_lt hmg
    omega
   omega
 unfold binary_Value.f
 have key : ∀ n, (mgF F s = 0 → n = false) → (mgF F s = 0 ∨ n = neg) → ∃ n' m x, Dy E n' m x (sv neg (nF F s * 2^(F.low - E).toNat)) ∧ Ev (fun k => dyadic_Make.f k n (lb (mgF F s)) (xpF F s)) (n', lb m, x, 0) := fun n z q => make_dy hl z (by omega) (by omega) (by omega) (hv n q) hb
 have num : ∃ n' m x, Dy E n' m x (sv neg (nF F s * 2^(F.low - E).toNat)) ∧ Ev (fun k => binary_number.f k neg ((mgF F s : Nat) : Int) (xpF F s)) (n', lb m, x, 0) := by
  cases neg
  ·obtain ⟨n', m, x, d, e⟩ := key false (fun _ => rfl) (.inr rfl)
   refine ⟨n', m, x, d, ?_⟩
   unfold binary_number.f
   rw [word_f _ (by omega)]
   simp only [Option.bind_some]
   exact Ev.congr (fun k => if_neg (by decide)) (Ev.bind e (Ev.now _))
  ·obtain ⟨n', m, x, d, e⟩ := key (decide (mgF F s ≠ 0)) (fun c => by rw [c]; rfl) (by by_cases c : mgF F s = 0; exact .inl c; exact .inr (decide_eq_true c))
   refine ⟨n', m, x, d, ?_⟩
   unfold binary_number.f
   rw [word_f _ (by omega)]
   simp only [Option.bind_some]
   have q : (((mgF F s : Nat) : Int) != 0) = decide (mgF F s ≠ 0) := by
    by_cases c : mgF F s = 0
    ·rw [c]; rfl
    ·rw [decide_eq_true c]; simp; omega
   rw [q]
   exact Ev.congr (fun k => if_pos trivial) (Ev.bind e (Ev.now _))
 obtain ⟨n', m, x, d, e⟩ := num
 refine ⟨n', m, x, d, ?_⟩
 refine Ev.bind (finite_pat h neg hs) (Ev.congr (fun k => if_pos rfl) ?_)
 simp only
 rw [parts_f h s hs2]
 simp only [Option.bind_some]
 exact Ev.bind e (Ev.now _)
end Go.Proofs.YtelfmddcjlocpaaGreatDoor.Rp7
end
section
set_option linter.unusedVariables false
namespace Go.Proofs.YtelfmddcjlocpaaGreatDoor.Sq
open Go.Proofs.YtelfmddcjlocpaaGreatDoor.BinLaw Go.Proofs.YtelfmddcjlocpaaGreatDoor.Ref Go.Proofs.YtelfmddcjlocpaaGreatDoor.Fm8 Go.Proofs.YtelfmddcjlocpaaGreatDoor.Rnd
structure Nq (F : Fmt) (n d s : Nat) : Prop where mk ::
 (le : s ≤ F.inf)
 (up : s < F.inf → 2 * n < md F 0 s * d ∨ (2 * n = md F 0 s * d ∧ s % 2 = 0))
 (dn : ∀ t, s = t + 1 → md F 0 t * d < 2 * n ∨ (md F 0 t * d = 2 * n ∧ s % 2 = 0))
theorem md_g (F : Fmt) (g s : Nat) : md F g s = md F 0 s * 2^g := by unfold md; rw [Nat.pow_zero, Nat.mul_one]
theorem nst_of_nq {F : Fmt} {g V s : Nat} (h : Nq F V (2^g) s) : Nst F g V s :=
 ⟨h.le, fun c => by rw [md_g]; exact h.up c, fun t e => by rw [md_g]; exact h.dn t e⟩
theorem md_odd {f : Int} {F : Fmt} (h : Fm f F) (s : Nat) : md F 0 s = (2 * mgF F s + 1) * 2^(dF F s) := by
 unfold md
 rw [nF_next h, Nat.pow_zero, Nat.mul_one]
 unfold nF
 rw [Nat.add_mul, Nat.one_mul, Nat.mul_assoc 2]
 omega
end Go.Proofs.YtelfmddcjlocpaaGreatDoor.Sq
end
