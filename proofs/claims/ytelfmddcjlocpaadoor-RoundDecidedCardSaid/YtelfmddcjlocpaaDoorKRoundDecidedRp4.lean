/- The order of dyadics as the order of their values; Decide; calls on given numbers. Plain Lean over the printed functions. Conditions: numbers in form. -/
import Derived.Test.YtelfmddcjlocpaaDoorKRoundDecidedRp3
import Derived.Test.YtelfmddcjlocpaaDoorKRoundDecidedPLibx18
import Derived.Test.YtelfmddcjlocpaaDoorKRoundDecidedPLibx10
import Derived.Test.YtelfmddcjlocpaaDoorKRoundDecidedPLibx8
import Derived.Test.YtelfmddcjlocpaaDoorKRoundDecidedPLibx3
namespace Go.Proofs.YtelfmddcjlocpaaDoor.Rp4
open Go.RowKit Go.Proofs.YtelfmddcjlocpaaDoorW.PrintWords Go.Proofs.YtelfmddcjlocpaaDoorW.PrintMore Go.Proofs.YtelfmddcjlocpaaDoor.Num Go.Proofs.YtelfmddcjlocpaaDoor.PLib Go.Proofs.YtelfmddcjlocpaaDoor.Ref Go.Proofs.YtelfmddcjlocpaaDoor.GTh Go.Proofs.YtelfmddcjlocpaaDoor.Given Go.Proofs.YtelfmddcjlocpaaDoor.Rp1 Go.Proofs.YtelfmddcjlocpaaDoor.Rp2 Go.Proofs.YtelfmddcjlocpaaDoor.Rp3 Go.Proofs.YtelfmddcjlocpaaDoor.BinLaw Go.Proofs.YtelfmddcjlocpaaDoor.Fm8 Go.Proofs.YtelfmddcjlocpaaDoor.Rnd
def vs (neg : Bool) (m : Nat) (x E : Int) : Int := if neg then -((m * 2^(x - E).toNat : Nat) : Int) else ((m * 2^(x - E).toNat : Nat) : Int)
theorem szc_vs {m m' : Nat} {x x' E : Int} (h : E ≤ x) (h' : E ≤ x') : szc m x m' x' = cmI (m * 2^(x - E).toNat) (m' * 2^(x' - E).toNat) := by
 unfold szc
 obtain ⟨d, hd⟩ : ∃ d : Nat, d = (min x x' - E).toNat := ⟨_, rfl⟩
 have e1 : (x - E).toNat = (x - min x x').toNat + d := by omega
 have e2 : (x' - E).toNat = (x' - min x x').toNat + d := by omega
 rw [e1, e2, Nat.pow_add, Nat.pow_add, ← Nat.mul_assoc, ← Nat.mul_assoc]
 generalize m * 2^(x - min x x').toNat = a
 generalize m' * 2^(x' - min x x').toNat = b
 have p := Nat.two_pow_pos d
 have i1 : a * 2^d < b * 2^d ↔ a < b := ⟨fun h => Nat.lt_of_mul_lt_mul_right h, fun h => Nat.mul_lt_mul_of_pos_right h p⟩
 have i2 : b * 2^d < a * 2^d ↔ b < a := ⟨fun h => Nat.lt_of_mul_lt_mul_right h, fun h => Nat.mul_lt_mul_of_pos_right h p⟩
 unfold cmI
 simp only [i1, i2]
def cmZ (a b : Int) : Int := if a < b then -1 else if b < a then 1 else 0
theorem dcm_vs {neg neg' : Bool} {m m' : Nat} {x x' E : Int} (h : E ≤ x) (h' : E ≤ x') : dcm neg m x neg' m' x' = cmZ (vs neg m x E) (vs neg' m' x' E) := by
 unfold dcm
 rw [szc_vs h h']
 unfold vs sgn
 have p1 := Nat.two_pow_pos (x - E).toNat
 have p2 := Nat.two_pow_pos (x' - E).toNat
 have z1 : m * 2^(x - E).toNat = 0 ↔ m = 0 := by
  constructor
  ·intro e
   rcases Nat.mul_eq_zero.1 e with e | e
   ·exact e
   ·omega
  ·intro e; rw [e, Nat.zero_mul]
 have z2 : m' * 2^(x' - E).toNat = 0 ↔ m' = 0 := by
  constructor
  ·intro e
   rcases Nat.mul_eq_zero.1 e with e | e
   ·exact e
   ·omega
  ·intro e; rw [e, Nat.zero_mul]
 generalize m * 2^(x - E).toNat = a at *
 generalize m' * 2^(x' - E).toNat = b at *
 unfold cmZ cmI
 by_cases c1 : m = 0
 ·have a0 := z1.2 c1
  subst a0
  rw [if_pos c1]
  by_cases c2 : m' = 0
  ·have b0 := z2.2 c2
   subst b0
   rw [if_pos c2]
   cases neg <;> cases neg' <;> simp
  ·have b0 : b ≠ 0 := fun e => c2 (z2.1 e)
   rw [if_neg c2]
   cases neg <;> cases neg' <;> simp <;> omega
 ·have a0 : a ≠ 0 := fun e => c1 (z1.1 e)
  rw [if_neg c1]
  by_cases c2 : m' = 0
  ·have b0 := z2.2 c2
   subst b0
   rw [if_pos c2]
   cases neg <;> cases neg' <;> simp <;> omega
  ·have b0 : b ≠ 0 := fun e => c2 (z2.1 e)
   rw [if_neg c2]
   rcases Nat.lt_trichotomy a b with c | c | c
   ·cases neg <;> cases neg' <;> simp [c, Nat.not_lt_of_lt c] <;> omega
   ·subst c; cases neg <;> cases neg' <;> simp <;> omega
   ·cases neg <;> cases neg' <;> simp [c, Nat.not_lt_of_lt c] <;> omega
theorem cmZ_le {a b : Int} : cmZ a b ≤ 0 ↔ a ≤ b := by unfold cmZ; split <;> (try split) <;> omega
theorem cmZ_3 (a b : Int) : cmZ a b = -1 ∨ cmZ a b = 0 ∨ cmZ a b = 1 := by unfold cmZ; split <;> (try split) <;> simp
def pv (F : Fmt) (g : Nat) (V : Int) : Nat := if V = 0 then 0 else pat F (decide (V < 0)) (rsz F g V.natAbs)
theorem rnd_pv (F : Fmt) {neg : Bool} {m : Nat} {x E : Int} (h : Dk neg m x) : rnd F neg m x E = pv F (F.low - E).toNat (vs neg m x E) := by
 unfold rnd pv vs
 have p1 := Nat.two_pow_pos (x - E).toNat
 by_cases c : m = 0
 ·obtain ⟨rfl, _⟩ := h.zero c
  rw [if_pos c, c]; simp
 ·have z1 : m * 2^(x - E).toNat ≠ 0 := Nat.mul_ne_zero c (by omega)
  generalize m * 2^(x - E).toNat = a at *
  rw [if_neg c]
  cases neg
  ·simp only [Bool.false_eq_true, if_false]
   rw [if_neg (show ¬ ((a : Nat) : Int) = 0 by omega), decide_eq_false (show ¬ ((a : Nat) : Int) < 0 by omega), Int.natAbs_natCast]
  ·simp only [if_true]
   rw [if_neg (show ¬ -((a : Nat) : Int) = 0 by omega), decide_eq_true (show -((a : Nat) : Int) < 0 by omega), Int.natAbs_neg, Int.natAbs_natCast]
theorem pv_sg {f : Int} {F : Fmt} (h : Fm f F) (g : Nat) (V : Int) : F.sg ≤ pv F g V ↔ V < 0 := by
 have hz := h.sz
 have hr := (rsz_nst h g V.natAbs).le
 unfold pv pat
 by_cases c : V = 0
 ·rw [if_pos c]; omega
 ·rw [if_neg c]
  by_cases c2 : V < 0
  ·rw [decide_eq_true c2, if_pos rfl]; omega
  ·rw [decide_eq_false c2, if_neg (by decide)]; omega
theorem pv_mid {f : Int} {F : Fmt} (h : Fm f F) {g : Nat} {a b d : Int} (h1 : a ≤ d) (h2 : d ≤ b) (e : pv F g a = pv F g b) : pv F g d = pv F g a := by
 have hz := h.sz
 have sa := pv_sg h g a
 have sb := pv_sg h g b
 have sd := pv_sg h g d
 by_cases ca : a < 0
 ·have cb : b < 0 := sb.1 (by rw [← e]; exact sa.2 ca)
  have cd : d < 0 := by omega
  have m1 := rsz_mono h (g := g) (show b.natAbs ≤ d.natAbs by omega)
  have m2 := rsz_mono h (g := g) (show d.natAbs ≤ a.natAbs by omega)
  unfold pv pat at e ⊢
  rw [if_neg (show ¬ a = 0 by omega), if_neg (show ¬ b = 0 by omega), decide_eq_true ca, decide_eq_true cb, if_pos rfl, if_pos rfl] at e
  rw [if_neg (show ¬ d = 0 by omega), if_neg (show ¬ a = 0 by omega), decide_eq_true ca, decide_eq_true cd, if_pos rfl, if_pos rfl]
  omega
 ·have up : ∀ v : Int, 0 ≤ v → pv F g v = rsz F g v.natAbs := by
   intro v hv
   unfold pv pat
   by_cases c : v = 0
   ·rw [if_pos c, c]
    exact (rsz_zero h g).symm
   ·rw [if_neg c, decide_eq_false (by omega), if_neg (by decide)]
  rw [up a (by omega), up b (by omega)] at e
  rw [up d (by omega), up a (by omega)]
  have m1 := rsz_mono h (g := g) (show a.natAbs ≤ d.natAbs by omega)
  have m2 := rsz_mono h (g := g) (show d.natAbs ≤ b.natAbs by omega)
  omega
theorem at_ev {neg neg' : Bool} {m m' : Nat} {x x' : Int} (h : Dk neg m x) (h' : Dk neg' m' x') : Ev (fun k => gnomonlaw08_at.f k neg (lb m) x neg' (lb m') x') (dcm neg m x neg' m' x') := by
 unfold gnomonlaw08_at.f
 exact Ev.bind (dcmp_ev h h') (Ev.congr (fun k => if_pos rfl) (Ev.now _))
theorem spanForm_ev {neg neg' : Bool} {m m' : Nat} {x x' : Int} (h : Dk neg m x) (h' : Dk neg' m' x') : Ev (fun k => span_Form.f k neg (lb m) x neg' (lb m') x') (decide (dcm neg m x neg' m' x' ≤ 0)) := by
 unfold span_Form.f span_cmp.f
 have f1 := form_ev neg (lb m) x
 have f2 := form_ev neg' (lb m') x'
 rw [dyB_lb h] at f1
 rw [dyB_lb h'] at f2
 refine Ev.bind f1 (Ev.congr (fun k => if_pos rfl) (Ev.bind f2 (Ev.congr (fun k => if_pos rfl) ?_)))
 exact Ev.bind (Ev.bind (dcmp_ev h h') (Ev.now _)) (Ev.now _)
theorem spanForm_bad {neg neg' : Bool} {l l' : List Int} {x x' : Int} (h : dyB neg l x = false ∨ dyB neg' l' x' = false) : Ev (fun k => span_Form.f k neg l x neg' l' x') false := by
 unfold span_Form.f
 have f1 := form_ev neg l x
 have f2 := form_ev neg' l' x'
 refine Ev.bind f1 ?_
 cases e : dyB neg l x
 ·exact Ev.congr (fun k => if_neg (by decide)) (Ev.now _)
 ·refine Ev.congr (fun k => if_pos rfl) (Ev.bind f2 ?_)
  rw [e] at h
  rw [h.resolve_left (by decide)]
  exact Ev.congr (fun k => if_neg (by decide)) (Ev.now _)
theorem wds {f : Int} {F : Fmt} (h : Fm f F) : ((((F.man : Nat) : Int)) == 0 && (F.low == 0 && (((F.wd - 1 : Nat) : Int) == 0))) = false := by rcases h with ⟨_, rfl⟩ | ⟨_, rfl⟩ <;> rfl
theorem decide_bad {f : Int} {F : Fmt} (hf : Fm f F) {neg neg' : Bool} {l l' : List Int} {x x' : Int} (h : dyB neg l x = false ∨ dyB neg' l' x' = false) : Ev (fun k => round_Decide.f k f neg l x neg' l' x') (0, false, 2) := by
 unfold round_Decide.f
 rw [of_f hf]
 simp only [Option.bind_some]
 rw [wds hf]
 refine Ev.congr (fun k => if_neg (by decide)) (Ev.bind (spanForm_bad h) ?_)
 exact Ev.congr (fun k => if_neg (by decide)) (Ev.now _)
theorem decide_gt {f : Int} {F : Fmt} (hf : Fm f F) {neg neg' : Bool} {m m' : Nat} {x x' : Int} (h : Dk neg m x) (h' : Dk neg' m' x') (c : ¬ dcm neg m x neg' m' x' ≤ 0) : Ev (fun k => round_Decide.f k f neg (lb m) x neg' (lb m') x') (0, false, 2) := by
 unfold round_Decide.f
 rw [of_f hf]
 simp only [Option.bind_some]
 rw [wds hf]
 refine Ev.congr (fun k => if_neg (by decide)) (Ev.bind (spanForm_ev h h') ?_)
 rw [decide_eq_false c]
 exact Ev.congr (fun k => if_neg (by decide)) (Ev.now _)
theorem decide_ok {f : Int} {F : Fmt} (hf : Fm f F) {neg neg' : Bool} {m m' : Nat} {x x' E : Int} (h : Dk neg m x) (h' : Dk neg' m' x') (c : dcm neg m x neg' m' x' ≤ 0) (h1 : E ≤ x) (h2 : E ≤ x') (h3 : E ≤ F.low) :
  Ev (fun k => round_Decide.f k f neg (lb m) x neg' (lb m') x') (if rnd F neg m x E = rnd F neg' m' x' E then (((rnd F neg m x E : Nat) : Int), true, 0) else (0, false, 0)) := by
 unfold round_Decide.f
 rw [of_f hf]
 simp only [Option.bind_some]
 rw [wds hf]
 refine Ev.congr (fun k => if_neg (by decide)) (Ev.bind (spanForm_ev h h') ?_)
 rw [decide_eq_true c]
 refine Ev.congr (fun k => if_pos rfl) (Ev.bind (nearest_ev hf h h1 h3) (Ev.bind (nearest_ev hf h' h2 h3) ?_))
 by_cases e : rnd F neg m x E = rnd F neg' m' x' E
 ·rw [if_pos e]
  exact Ev.congr (fun k => if_pos (by rw [e])) (Ev.now _)
 ·rw [if_neg e]
  exact Ev.congr (fun k => if_neg (by omega)) (Ev.now _)
theorem format_f (b : Bool) : ∃ (f : Int) (F : Fmt), Fm f F ∧ gnomonlaw08_format.f b = some f := by
 cases b
 ·exact ⟨64, fD, .inr ⟨rfl, rfl⟩, rfl⟩
 ·exact ⟨32, fS, .inl ⟨rfl, rfl⟩, rfl⟩
theorem num_1 : Ev (fun k => gnomonlaw08_num.f k 1 0) (false, [1], 0) := Ev.of (fun k => gnomonlaw08_num.mono _ _ k) (k := 60) (by decide +kernel)
theorem awake_ev : Ev (fun k => gnomonlaw08_awake.f k) true := Ev.of (fun k => gnomonlaw08_awake.mono k) (k := 80) (by decide +kernel)
theorem decide_1 : Ev (fun k => round_Decide.f k 64 false [1] 0 false [1] 0) (4607182418800017408, true, 0) := Ev.of (fun k => round_Decide.mono _ _ _ _ _ _ _ k) (k := 60) (by decide +kernel)
end Go.Proofs.YtelfmddcjlocpaaDoor.Rp4
