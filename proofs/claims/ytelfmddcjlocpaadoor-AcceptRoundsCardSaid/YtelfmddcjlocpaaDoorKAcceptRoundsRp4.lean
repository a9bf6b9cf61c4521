/- The order of dyadics as the order of their values; Decide; calls on given numbers. Plain Lean over the printed functions. Conditions: numbers in form. -/
import Derived.Test.YtelfmddcjlocpaaDoorKAcceptRoundsRp3
import Derived.Test.YtelfmddcjlocpaaDoorKAcceptRoundsPxL3
import Derived.Test.YtelfmddcjlocpaaDoorKAcceptRoundsPxL0
namespace Go.Proofs.YtelfmddcjlocpaaDoor.Rp4
open Go.RowKit Go.Proofs.YtelfmddcjlocpaaDoorW.PrintWords Go.Proofs.YtelfmddcjlocpaaDoorW.PrintMore Go.Proofs.YtelfmddcjlocpaaDoor.Num Go.Proofs.YtelfmddcjlocpaaDoor.PLib Go.Proofs.YtelfmddcjlocpaaDoor.Ref Go.Proofs.YtelfmddcjlocpaaDoor.GTh Go.Proofs.YtelfmddcjlocpaaDoor.Given Go.Proofs.YtelfmddcjlocpaaDoor.Rp1 Go.Proofs.YtelfmddcjlocpaaDoor.Rp2 Go.Proofs.YtelfmddcjlocpaaDoor.Rp3 Go.Proofs.YtelfmddcjlocpaaDoor.BinLaw Go.Proofs.YtelfmddcjlocpaaDoor.Fm8 Go.Proofs.YtelfmddcjlocpaaDoor.Rnd
def vs (neg : Bool) (m : Nat) (x E : Int) : Int := if neg then -((m * 2^(x - E).toNat : Nat) : Int) else ((m * 2^(x - E).toNat : Nat) : Int)
theorem szc_vs {m m' : Nat} {x x' E : Int} (h : E ≤ x) (h' : E ≤ x') : szc m x m' x' = cmI (m * 2^(x - E).toNat) (m' * 2^(x' - E).toNat) := by
 unfold szc
 obtain ⟨d, hd⟩ : ∃ d : Nat, d = (min x x' - E).toNat := ⟨_, rfl⟩
 have e1 : (x - E).toNat = (x - min x x').toNat + d := by omega
 have e2 : (x' - E).toNat = (x' - min x x').toNat + d := by omega
 rw [e1, e2, Nat.pow_add, Nat.pow_add, ← Nat.mul_assoc, ← Nat.mul_assoc]
 generalize m * 2^(x - min x x').toNat = a
 generalize m' * 2^(x' - min x x').toNat = b
 have p := Nat.two_pow_pos d
 have i1 : a * 2^d < b * 2^d ↔ a < b := ⟨fun h => Nat.lt_of_mul_lt_mul_right h, fun h => Nat.mul_lt_mul_of_pos_right h p⟩
 have i2 : b * 2^d < a * 2^d ↔ b < a := ⟨fun h => Nat.lt_of_mul_lt_mul_right h, fun h => Nat.mul_lt_mul_of_pos_right h p⟩
 unfold cmI
 simp only [i1, i2]
def cmZ (a b : Int) : Int := if a < b then -1 else if b < a then 1 else 0
theorem dcm_vs {neg neg' : Bool} {m m' : Nat} {x x' E : Int} (h : E ≤ x) (h' : E ≤ x') : dcm neg m x neg' m' x' = cmZ (vs neg m x E) (vs neg' m' x' E) := by
 unfold dcm
 rw [szc_vs h h']
 unfold vs sgn
 have p1 := Nat.two_pow_pos (x - E).toNat
 have p2 := Nat.two_pow_pos (x' - E).toNat
 have z1 : m * 2^(x - E).toNat = 0 ↔ m = 0 := by
  constructor
  ·intro e
   rcases Nat.mul_eq_zero.1 e with e | e
   ·exact e
   ·omega
  ·intro e; rw [e, Nat.zero_mul]
 have z2 : m' * 2^(x' - E).toNat = 0 ↔ m' = 0 := by
  constructor
  ·intro e
   rcases Nat.mul_eq_zero.1 e with e | e
   ·exact e
   ·omega
  ·intro e; rw [e, Nat.zero_mul]
 generalize m * 2^(x - E).toNat = a at *
 generalize m' * 2^(x' - E).toNat = b at *
 unfold cmZ cmI
 by_cases c1 : m = 0
 ·have a0 := z1.2 c1
  subst a0
  rw [if_pos c1]
  by_cases c2 : m' = 0
  ·have b0 := z2.2 c2
   subst b0
   rw [if_pos c2]
   cases neg <;> cases neg' <;> simp
  ·have b0 : b ≠ 0 := fun e => c2 (z2.1 e)
   rw [if_neg c2]
   cases neg <;> cases neg' <;> simp <;> omega
 ·have a0 : a ≠ 0 := fun e => c1 (z1.1 e)
  rw [if_neg c1]
  by_cases c2 : m' = 0
  ·have b0 := z2.2 c2
   subst b0
   rw [if_pos c2]
   cases neg <;> cases neg' <;> simp <;> omega
  ·have b0 : b ≠ 0 := fun e => c2 (z2.1 e)
   rw [if_neg c2]
   rcases Nat.lt_trichotomy a b with c | c | c
   ·cases neg <;> cases neg' <;> simp [c, Nat.not_lt_of_lt c] <;> omega
   ·subst c; cases neg <;> cases neg' <;> simp <;> omega
   ·cases neg <;> cases neg' <;> simp [c, Nat.not_lt_of_lt c] <;> omega
theorem cmZ_le {a b : Int} : cmZ a b ≤ 0 ↔ a ≤ b := by unfold cmZ; split <;> (try split) <;> omega
def pv (F : Fmt) (g : Nat) (V : Int) : Nat := if V = 0 then 0 else pat F (decide (V < 0)) (rsz F g V.natAbs)
theorem rnd_pv (F : Fmt) {neg : Bool} {m : Nat} {x E : Int} (h : Dk neg m x) : rnd F neg m x E = pv F (F.low - E).toNat (vs neg m x E) := by
 unfold rnd pv vs
 have p1 := Nat.two_pow_pos (x - E).toNat
 by_cases c : m = 0
 ·obtain ⟨rfl, _⟩ := h.zero c
  rw [if_pos c, c]; simp
 ·have z1 : m * 2^(x - E).toNat ≠ 0 := Nat.mul_ne_zero c (by omega)
  generalize m * 2^(x - E).toNat = a at *
  rw [if_neg c]
  cases neg
  ·simp only [Bool.false_eq_true, if_false]
   rw [if_neg (show ¬ ((a : Nat) : Int) = 0 by omega), decide_eq_false (show ¬ ((a : Nat) : Int) < 0 by omega), Int.natAbs_natCast]
  ·simp only [if_true]
   rw [if_neg (show ¬ -((a : Nat) : Int) = 0 by omega), decide_eq_true (show -((a : Nat) : Int) < 0 by omega), Int.natAbs_neg, Int.natAbs_natCast]
theorem spanForm_ev {neg neg' : Bool} {m m' : Nat} {x x' : Int} (h : Dk neg m x) (h' : Dk neg' m' x') : Ev (fun k => span_Form.f k neg (lb m) x neg' (lb m') x') (decide (dcm neg m x neg' m' x' ≤ 0)) := by
 unfold span_Form.f span_cmp.f
 have f1 := form_ev neg (lb m) x
 have f2 := form_ev neg' (lb m') x'
 rw [dyB_lb h] at f1
 rw [dyB_lb h'] at f2
 refine Ev.bind f1 (Ev.congr (fun k => if_pos rfl) (Ev.bind f2 (Ev.congr (fun k => if_pos rfl) ?_)))
 exact Ev.bind (Ev.bind (dcmp_ev h h') (Ev.now _)) (Ev.now _)
theorem wds {f : Int} {F : Fmt} (h : Fm f F) : ((((F.man : Nat) : Int)) == 0 && (F.low == 0 && (((F.wd - 1 : Nat) : Int) == 0))) = false := by rcases h with ⟨_, rfl⟩ | ⟨_, rfl⟩ <;> rfl
theorem decide_ok {f : Int} {F : Fmt} (hf : Fm f F) {neg neg' : Bool} {m m' : Nat} {x x' E : Int} (h : Dk neg m x) (h' : Dk neg' m' x') (c : dcm neg m x neg' m' x' ≤ 0) (h1 : E ≤ x) (h2 : E ≤ x') (h3 : E ≤ F.low) :
  Ev (fun k => round_Decide.f k f neg (lb m) x neg' (lb m') x') (if rnd F neg m x E = rnd F neg' m' x' E then (((rnd F neg m x E : Nat) : Int), true, 0) else (0, false, 0)) := by
 unfold round_Decide.f
 rw [of_f hf]
 simp only [Option.bind_some]
 rw [wds hf]
 refine Ev.congr (fun k => if_neg (by decide)) (Ev.bind (spanForm_ev h h') ?_)
 rw [decide_eq_true c]
 refine Ev.congr (fun k => if_pos rfl) (Ev.bind (nearest_ev hf h h1 h3) (Ev.bind (nearest_ev hf h' h2 h3) ?_))
 by_cases e : rnd F neg m x E = rnd F neg' m' x' E
 ·rw [if_pos e]
  exact Ev.congr (fun k => if_pos (by rw [e])) (Ev.now _)
 ·rw [if_neg e]
  exact Ev.congr (fun k => if_neg (by omega)) (Ev.now _)
end Go.Proofs.YtelfmddcjlocpaaDoor.Rp4
