/- What a number rounds to is the pattern in whose cell it lies; beyond the last cell lies infinity, within half the least number a nought: the plain law. Plain Lean over the printed functions. Condition: a list of words. -/
import Derived.Test.YtelfmddcjlocpaaDoorKRoundInsideRp6
import Derived.Test.YtelfmddcjlocpaaDoorKRoundInsideRoundMeetsL
import Derived.Test.YtelfmddcjlocpaaDoorKRoundInsidePxL5
import Derived.Test.YtelfmddcjlocpaaDoorKRoundInsidePxL4
import Derived.Test.YtelfmddcjlocpaaDoorKRoundInsidePxL0
import Derived.Test.YtelfmddcjlocpaaDoorKRoundInsidePxL1
set_option linter.unusedVariables false
namespace Go.Proofs.YtelfmddcjlocpaaDoor.RoundInsideL
open Go.RowKit Go.Proofs.YtelfmddcjlocpaaDoorW.PrintWords Go.Proofs.YtelfmddcjlocpaaDoorW.PrintMore Go.Proofs.YtelfmddcjlocpaaDoor.Num Go.Proofs.YtelfmddcjlocpaaDoor.PLib Go.Proofs.YtelfmddcjlocpaaDoor.Ref Go.Proofs.YtelfmddcjlocpaaDoor.GTh Go.Proofs.YtelfmddcjlocpaaDoor.Given Go.Proofs.YtelfmddcjlocpaaDoor.Rp1 Go.Proofs.YtelfmddcjlocpaaDoor.Rp2 Go.Proofs.YtelfmddcjlocpaaDoor.Rp3 Go.Proofs.YtelfmddcjlocpaaDoor.Rp4 Go.Proofs.YtelfmddcjlocpaaDoor.Rp5 Go.Proofs.YtelfmddcjlocpaaDoor.Rp6 Go.Proofs.YtelfmddcjlocpaaDoor.RoundMeetsL Go.Proofs.YtelfmddcjlocpaaDoor.BinLaw Go.Proofs.YtelfmddcjlocpaaDoor.Fm8 Go.Proofs.YtelfmddcjlocpaaDoor.Rnd
theorem lawSign_f {f : Int} {F : Fmt} (h : Fm f F) : gnomonlaw08_sign.f f = some ((F.sg : Nat) : Int) := by
 rcases h with ⟨rfl, rfl⟩ | ⟨rfl, rfl⟩ <;> decide +kernel
theorem lawOf_f {f : Int} {F : Fmt} (h : Fm f F) : ∃ g : Int, gnomonref07_Of.f f = some (((F.sg : Nat) : Int), ((F.man : Nat) : Int), F.low, g, ((F.inf : Nat) : Int), ((F.qt : Nat) : Int), true) := by
 rcases h with ⟨rfl, rfl⟩ | ⟨rfl, rfl⟩
 ·exact ⟨104, rfl⟩
 ·exact ⟨971, rfl⟩
theorem neg_ev {m : Nat} {x : Int} (h : Dk true m x) : Ev (fun k => dyadic_Neg.f k true (lb m) x) (false, lb m, x, 0) := by
 unfold dyadic_Neg.f dyadic_twin.f slices_Clone_uint64_uint64.f
 have f1 := form_ev true (lb m) x
 rw [dyB_lb h] at f1
 refine Ev.bind f1 (Ev.congr (fun k => if_pos rfl) ?_)
 rw [if_pos (by rw [lb_len]; have := h.lim; omega)]
 exact Ev.now _
theorem xor_edge {f : Int} {F : Fmt} (h : Fm f F) {s : Nat} (hs : s = 0 ∨ s = F.inf) : Go.bits .xor .u64 ((pat F true s : Nat) : Int) ((F.sg : Nat) : Int) = (s : Int) := by
 rcases h with ⟨_, rfl⟩ | ⟨_, rfl⟩ <;> rcases hs with rfl | rfl <;> decide +kernel
theorem at_up {f : Int} {F : Fmt} (h : Fm f F) {neg : Bool} {m : Nat} {x E : Int} (hd : Dk neg m x) (hE : E ≤ x) (hE2 : E ≤ F.low - 1) {i : Nat} (hi : i < F.sg) :
  Ev (fun k => gnomonlaw08_at.f k neg (lb m) x neg (lb (mdm F i)) (mdx F i)) (if neg then cmI (md F (F.low - E).toNat i) (2 * (m * 2^(x - E).toNat)) else cmI (2 * (m * 2^(x - E).toNat)) (md F (F.low - E).toNat i)) ∧
  Ev (fun k => gnomonlaw08_at.f k neg (lb (mdm F i)) (mdx F i) neg (lb m) x) (if neg then cmI (2 * (m * 2^(x - E).toNat)) (md F (F.low - E).toNat i) else cmI (md F (F.low - E).toNat i) (2 * (m * 2^(x - E).toNat))) := by
 have d2 := mid_dk h neg hi
 have r2 := mdx_rng h hi
 have a := at_ev hd d2
 have b := at_ev d2 hd
 rw [dcm_vs (E := E) hE (by omega), mid_vs h neg i E hE2] at a
 rw [dcm_vs (E := E) (by omega) hE, mid_vs h neg i E hE2] at b
 have em : md F (F.low - E).toNat i = 2 * ((nF F i + nF F (i + 1)) * 2^(F.low - 1 - E).toNat) := by
  unfold md
  have : (F.low - E).toNat = (F.low - 1 - E).toNat + 1 := by omega
  rw [this, Nat.pow_succ, ← Nat.mul_assoc, Nat.mul_comm]
 unfold vs at a b
 rw [em]
 generalize m * 2^(x - E).toNat = V at *
 generalize (nF F i + nF F (i + 1)) * 2^(F.low - 1 - E).toNat = M at *
 have k1 : ∀ p q : Nat, cmZ (p : Int) (q : Int) = cmI (2 * p) (2 * q) := by
  intro p q
  unfold cmZ cmI
  have i1 : ((p : Int) < (q : Int)) ↔ 2 * p < 2 * q := by omega
  have i2 : ((q : Int) < (p : Int)) ↔ 2 * q < 2 * p := by omega
  simp only [i1, i2]
 have k2 : ∀ p q : Nat, cmZ (-(p : Int)) (-(q : Int)) = cmI (2 * q) (2 * p) := by
  intro p q
  unfold cmZ cmI
  have i1 : (-(p : Int) < -(q : Int)) ↔ 2 * q < 2 * p := by omega
  have i2 : (-(q : Int) < -(p : Int)) ↔ 2 * p < 2 * q := by omega
  simp only [i1, i2]
 cases neg
 ·rw [if_neg (by decide), if_neg (by decide), k1] at a b
  exact ⟨a, b⟩
 ·rw [if_pos rfl, if_pos rfl, k2] at a b
  exact ⟨a, b⟩
theorem cmI_le {a b : Nat} : cmI a b ≤ 0 ↔ a ≤ b := by unfold cmI; split <;> (try split) <;> omega
theorem cmI_ge {a b : Nat} : cmI a b ≥ 0 ↔ b ≤ a := by unfold cmI; split <;> (try split) <;> omega
theorem cmI_neg {a b : Nat} : cmI a b < 0 ↔ a < b := by unfold cmI; split <;> (try split) <;> omega
theorem cmI_one (a b : Nat) : cmI a b ≤ 1 := by unfold cmI; split <;> (try split) <;> omega
theorem edge_ev {f : Int} {F : Fmt} (h : Fm f F) {m : Nat} {x E : Int} (hd : Dk false m x) (hE : E ≤ x) (hE2 : E ≤ F.low - 1) {s : Nat} (hn : Nst F (F.low - E).toNat (m * 2^(x - E).toNat) s) (hs : s = 0 ∨ s = F.inf) (g : Int) :
  Ev (fun k => (if (s : Int) = 0 then ((binary_Mid.f k f 0).bind fun bt143 => (if bt143.2.2.2 = 0 then ((gnomonlaw08_at.f k false (lb m) x bt143.1 bt143.2.1 bt143.2.2.1).bind fun t150 => (some (decide (t150 ≤ 0)))) else (some false))) else ((binary_Mid.f k f (IntKind.u64.wrap (((F.inf : Nat) : Int) - 1))).bind fun bt151 => (if (s : Int) = ((F.inf : Nat) : Int) then (if bt151.2.2.2 = 0 then ((gnomonlaw08_at.f k false (lb m) x bt151.1 bt151.2.1 bt151.2.2.1).bind fun t158 => (if t158 ≥ 0 then ((gnomonlaw08_at.f k false (lb m) x bt151.1 bt151.2.1 bt151.2.2.1).bind fun t159 => (some (decide (t159 ≤ 1)))) else (some false))) else (some false)) else (some false))))) true := by
 have hz := h.sz
 by_cases c : s = 0
 ·refine Ev.congr (fun k => if_pos (by omega)) ?_
  have M := mid_pat h false (s := 0) hz.1
  refine Ev.bind M (Ev.congr (fun k => if_pos rfl) ?_)
  have A := (at_up h hd hE hE2 (i := 0) (by omega)).1
  rw [if_neg (by decide)] at A
  refine Ev.bind A ?_
  have u := hn.up (by omega)
  rw [c] at u
  have : cmI (2 * (m * 2^(x - E).toNat)) (md F (F.low - E).toNat 0) ≤ 0 := cmI_le.2 (by omega)
  rw [decide_eq_true this]
  exact Ev.now _
 ·have e : s = F.inf := by omega
  refine Ev.congr (fun k => if_neg (by omega)) ?_
  have w1 : IntKind.u64.wrap (((F.inf : Nat) : Int) - 1) = ((pat F false (F.inf - 1) : Nat) : Int) := by
   rw [wu64 (by omega) (by omega)]
   unfold pat
   rw [if_neg (by decide)]
   omega
  rw [w1]
  refine Ev.bind (mid_pat h false (s := F.inf - 1) (by omega)) (Ev.congr (fun k => if_pos (by rw [e])) (Ev.congr (fun k => if_pos rfl) ?_))
  have A := (at_up h hd hE hE2 (i := F.inf - 1) (by omega)).1
  rw [if_neg (by decide)] at A
  have d := hn.dn (F.inf - 1) (by omega)
  have q : cmI (2 * (m * 2^(x - E).toNat)) (md F (F.low - E).toNat (F.inf - 1)) ≥ 0 := cmI_ge.2 (by omega)
  refine Ev.bind A (Ev.congr (fun k => if_pos q) (Ev.bind A ?_))
  rw [decide_eq_true (cmI_one _ _)]
  exact Ev.now _
theorem beyond_ev {f : Int} {F : Fmt} (h : Fm f F) {neg : Bool} {m : Nat} {x E : Int} (hd : Dk neg m x) (h0 : m ≠ 0) (hE : E ≤ x) (hE2 : E ≤ F.low - 1) {s : Nat} (hn : Nst F (F.low - E).toNat (m * 2^(x - E).toNat) s) (hs : s = 0 ∨ s = F.inf) :
  Ev (fun k => gnomonlaw08_beyond.f k f neg (lb m) x ((pat F neg s : Nat) : Int)) true := by
 obtain ⟨g, hg⟩ := lawOf_f h
 unfold gnomonlaw08_beyond.f
 cases neg
 ·refine Ev.congr (fun k => if_neg (by decide)) ?_
  rw [hg]
  simp only [Option.bind_some]
  have := edge_ev h hd hE hE2 hn hs g
  exact this
 ·refine Ev.congr (fun k => if_pos rfl) (Ev.bind (neg_ev hd) (Ev.congr (fun k => if_pos rfl) ?_))
  rw [lawSign_f h, hg]
  simp only [Option.bind_some]
  rw [xor_edge h hs]
  have hd2 : Dk false m x := { lim := hd.lim, zero := fun e => absurd e h0, odd := hd.odd, low := hd.low, high := hd.high }
  have := edge_ev h hd2 hE hE2 hn hs g
  exact this
theorem j3_ev {in_ : Bool} {p q : Int} (h : (p < 0 ∧ q < 0) ∨ (in_ = true ∧ p ≤ 0 ∧ q ≤ 0)) : Ev (fun k => gnomonlaw08_RoundInside.j3 k in_ p q false) true := by
 refine Ev.succ ?_
 simp only [gnomonlaw08_RoundInside.j3]
 refine Ev.congr (fun k => if_neg (by decide)) ?_
 by_cases c : p < 0 ∧ q < 0
 ·exact Ev.congr (fun k => if_pos c.1) (Ev.congr (fun k => if_pos c.2) (Ev.now _))
 ·obtain ⟨e, h1, h2⟩ := h.resolve_left c
  subst e
  have t : Ev (fun _ : Nat => if true = true then (if p ≤ 0 then some (decide (q ≤ 0)) else some false) else some false) true := by
   refine Ev.congr (fun k => if_pos rfl) (Ev.congr (fun k => if_pos h1) ?_)
   rw [decide_eq_true h2]
   exact Ev.now _
  by_cases c1 : p < 0
  ·refine Ev.congr (fun k => if_pos c1) (Ev.congr (fun k => if_neg (fun c2 => c ⟨c1, c2⟩)) t)
  ·exact Ev.congr (fun k => if_neg c1) t
theorem law_ev (a0 neg : Bool) (l : List Int) (x : Int) (w : Wf l) : Ev (fun k => gnomonlaw08_RoundInside.f k a0 neg l x) true := by
 obtain ⟨f, F, h, ef⟩ := format_f a0
 have hz := h.sz
 unfold gnomonlaw08_RoundInside.f
 rw [ef]
 simp only [Option.bind_some]
 refine Ev.bind awake_ev (Ev.congr (fun k => if_pos rfl) ?_)
 cases e1 : dyB neg l x
 ·refine Ev.bind (nearest_bad h e1) (Ev.bind (docForm_ev neg l x) ?_)
  rw [e1]
  exact Ev.congr (fun k => if_neg (by decide)) (Ev.congr (fun k => if_pos rfl) (Ev.now _))
 ·obtain ⟨m, rfl, hd⟩ := dk_of w e1
  have g1 := docForm_ev neg (lb m) x
  rw [e1] at g1
  obtain ⟨E, hE0⟩ : ∃ E, E = min x (F.low - 1) := ⟨_, rfl⟩
  have hE : E ≤ x := by omega
  have hE2 : E ≤ F.low - 1 := by omega
  refine Ev.bind (nearest_ev h hd hE (by omega)) (Ev.bind g1 (Ev.congr (fun k => if_pos rfl) (Ev.congr (fun k => if_pos rfl) ?_)))
  have en : gnomonref05_Nought.f neg (lb m) x = some (decide (m = 0)) := by
   unfold gnomonref05_Nought.f
   rw [lb_len]
   by_cases c : m = 0
   ·rw [c]; rfl
   ·have := nl_pos c
    rw [decide_eq_false c, show (((nl m : Nat) : Int) == 0) = false by simp; omega]
  rw [en]
  simp only [Option.bind_some]
  refine Ev.succ ?_
  simp only [gnomonlaw08_RoundInside.j0]
  by_cases c : m = 0
  ·refine Ev.congr (fun k => if_pos (decide_eq_true c)) (Ev.congr (fun k => if_pos trivial) ?_)
   have : rnd F neg m x E = 0 := by unfold rnd; rw [if_pos c]
   rw [this]
   exact Ev.now _
  ·refine Ev.congr (fun k => if_neg (by rw [decide_eq_false c]; decide)) ?_
   have hn := rsz_nst h (F.low - E).toNat (m * 2^(x - E).toNat)
   have er : rnd F neg m x E = pat F neg (rsz F (F.low - E).toNat (m * 2^(x - E).toNat)) := by unfold rnd; rw [if_neg c]
   rw [er]
   generalize rsz F (F.low - E).toNat (m * 2^(x - E).toNat) = s at *
   have hs : s < F.sg := by have := hn.le; omega
   have hlt := pat_lt F neg hs
   rw [lawSign_f h]
   simp only [Option.bind_some]
   have es : (neg != (Go.bits .and .u64 ((pat F neg s : Nat) : Int) ((F.sg : Nat) : Int) != 0)) = false := by
    rw [and_sg (fm_isF h) hlt, pat_ge F neg hs]
    cases neg <;> rfl
   rw [es, lawFin_pat h neg hs]
   simp only [Option.bind_some]
   refine Ev.congr (fun k => if_neg (by decide)) ?_
   have B : ∀ q : Bool, q = true → (s = 0 ∨ s = F.inf) → Ev (fun k => gnomonlaw08_RoundInside.j1 k f ((pat F neg s : Nat) : Int) q neg (lb m) x) true := by
    intro q hq hs2
    refine Ev.succ ?_
    simp only [gnomonlaw08_RoundInside.j1]
    exact Ev.congr (fun k => if_pos hq) (Ev.bind (beyond_ev h hd c hE hE2 hn hs2) (Ev.now _))
   by_cases cf : s < F.inf
   ·refine Ev.congr (fun k => if_pos (decide_eq_true cf)) ?_
    by_cases c0 : s = 0
    ·exact B _ (decide_eq_true c0) (.inl c0)
    ·refine Ev.succ ?_
     simp only [gnomonlaw08_RoundInside.j1]
     refine Ev.congr (fun k => if_neg (by rw [decide_eq_false c0]; decide)) (Ev.bind (cell_pat h neg c0 cf) (Ev.congr (fun k => if_pos rfl) (Ev.succ ?_)))
     simp only [gnomonlaw08_RoundInside.j2]
     have ee : (decide (s % 2 = 0) != (Int.tmod ((pat F neg s : Nat) : Int) 2 == 0)) = false := by
      have e2 : Int.tmod ((pat F neg s : Nat) : Int) 2 = ((pat F neg s % 2 : Nat) : Int) := (Int.ofNat_tmod (pat F neg s) 2).symm
      rw [e2, pat_even h]
      by_cases z : s % 2 = 0
      ·rw [decide_eq_true z, z]; rfl
      ·have : s % 2 = 1 := by omega
       rw [decide_eq_false z, this]; rfl
     rw [ee]
     refine Ev.congr (fun k => if_neg (by decide)) ?_
     have u := hn.up cf
     have d := hn.dn (s - 1) (by omega)
     have A1 := at_up h hd hE hE2 (i := s) hs
     have A0 := at_up h hd hE hE2 (i := s - 1) (by omega)
     generalize md F (F.low - E).toNat s = M1 at *
     generalize md F (F.low - E).toNat (s - 1) = M0 at *
     generalize m * 2^(x - E).toNat = V at *
     cases neg
     ·rw [if_neg (by decide), if_neg (by decide)] at A1 A0
      refine Ev.bind A0.2 (Ev.bind A1.1 (Ev.congr (fun k => if_neg (by have := cmI_one M0 (2 * V); omega)) ?_))
      rw [show decide (cmI (2 * V) M1 > 1) = false from decide_eq_false (by have := cmI_one (2 * V) M1; omega)]
      refine j3_ev ?_
      rw [cmI_neg, cmI_neg, cmI_le, cmI_le]
      by_cases z : s % 2 = 0
      ·exact .inr ⟨decide_eq_true z, by omega, by omega⟩
      ·exact .inl ⟨by omega, by omega⟩
     ·rw [if_pos rfl, if_pos rfl] at A1 A0
      refine Ev.bind A1.2 (Ev.bind A0.1 (Ev.congr (fun k => if_neg (by have := cmI_one (2 * V) M1; omega)) ?_))
      rw [show decide (cmI M0 (2 * V) > 1) = false from decide_eq_false (by have := cmI_one M0 (2 * V); omega)]
      refine j3_ev ?_
      rw [cmI_neg, cmI_neg, cmI_le, cmI_le]
      by_cases z : s % 2 = 0
      ·exact .inr ⟨decide_eq_true z, by omega, by omega⟩
      ·exact .inl ⟨by omega, by omega⟩
   ·refine Ev.congr (fun k => if_neg (by rw [decide_eq_false cf]; decide)) (B true rfl (.inr (by have := hn.le; omega)))
end Go.Proofs.YtelfmddcjlocpaaDoor.RoundInsideL
