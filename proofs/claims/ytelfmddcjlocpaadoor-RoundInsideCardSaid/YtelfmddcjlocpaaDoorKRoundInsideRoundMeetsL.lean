/- The cells of neighbours meet, and of the two just one takes the end in: the plain law. Plain Lean over the printed functions. Condition: a word. -/
import Derived.Test.YtelfmddcjlocpaaDoorKRoundInsideRp6
import Derived.Test.YtelfmddcjlocpaaDoorKRoundInsidePxL3
import Derived.Test.YtelfmddcjlocpaaDoorKRoundInsidePxL2
namespace Go.Proofs.YtelfmddcjlocpaaDoor.RoundMeetsL
open Go.RowKit Go.Proofs.YtelfmddcjlocpaaDoorW.PrintWords Go.Proofs.YtelfmddcjlocpaaDoorW.PrintMore Go.Proofs.YtelfmddcjlocpaaDoor.Num Go.Proofs.YtelfmddcjlocpaaDoor.PLib Go.Proofs.YtelfmddcjlocpaaDoor.Ref Go.Proofs.YtelfmddcjlocpaaDoor.GTh Go.Proofs.YtelfmddcjlocpaaDoor.Given Go.Proofs.YtelfmddcjlocpaaDoor.Rp1 Go.Proofs.YtelfmddcjlocpaaDoor.Rp2 Go.Proofs.YtelfmddcjlocpaaDoor.Rp3 Go.Proofs.YtelfmddcjlocpaaDoor.Rp4 Go.Proofs.YtelfmddcjlocpaaDoor.Rp5 Go.Proofs.YtelfmddcjlocpaaDoor.Rp6 Go.Proofs.YtelfmddcjlocpaaDoor.BinLaw Go.Proofs.YtelfmddcjlocpaaDoor.Fm8 Go.Proofs.YtelfmddcjlocpaaDoor.Rnd
theorem pat_f (a0 : Bool) (b : Nat) (hb : b < 18446744073709551616) : ∃ (f : Int) (F : Fmt) (c : Nat), Fm f F ∧ gnomonlaw08_format.f a0 = some f ∧ gnomonlaw08_pat.f a0 (b : Int) = some (c : Int) ∧ c < 2 * F.sg := by
 cases a0
 ·exact ⟨64, fD, b, .inr ⟨rfl, rfl⟩, rfl, rfl, hb⟩
 ·refine ⟨32, fS, b % 4294967296, .inl ⟨rfl, rfl⟩, rfl, ?_, Nat.mod_lt _ (by decide)⟩
  unfold gnomonlaw08_pat.f
  rw [if_pos rfl, mask32 (by omega) (by omega)]
  rfl
theorem cell_2 : Ev (fun k => round_Cell.f k 64 2) (false, [3], -1075, false, [5], -1075, true, 0) := Ev.of (fun k => round_Cell.mono _ _ k) (k := 60) (by kernel_rfl)
theorem num_3 : Ev (fun k => gnomonlaw08_num.f k 3 (-1075)) (false, [3], -1075) := Ev.of (fun k => gnomonlaw08_num.mono _ _ k) (k := 60) (by decide +kernel)
theorem num_5 : Ev (fun k => gnomonlaw08_num.f k 5 (-1075)) (false, [5], -1075) := Ev.of (fun k => gnomonlaw08_num.mono _ _ k) (k := 60) (by decide +kernel)
theorem spans_2 : Ev (fun k => gnomonlaw08_spans.f k false [3] (-1075) false [5] (-1075) false [3] (-1075) false [5] (-1075)) true := Ev.of (fun k => gnomonlaw08_spans.mono _ _ _ _ _ _ _ _ _ _ _ _ k) (k := 60) (by decide +kernel)
theorem rsz_mid {f : Int} {F : Fmt} (h : Fm f F) {i : Nat} (hi : i < F.inf) : rsz F 1 (nF F i + nF F (i + 1)) = if i % 2 = 0 then i else i + 1 := by
 have hm : md F 1 i = 2 * (nF F i + nF F (i + 1)) := by unfold md; rw [Nat.pow_one, Nat.mul_comm]
 have s1 := nF_step h (i + 1)
 have s0 := nF_step h i
 by_cases c : i % 2 = 0
 ·rw [if_pos c]
  refine rsz_eq h ⟨by omega, fun _ => .inr ⟨hm.symm, c⟩, fun t ht => .inl ?_⟩
  subst ht
  have := md_lt h (g := 1) (show t < t + 1 by omega)
  omega
 ·rw [if_neg c]
  refine rsz_eq h ⟨by omega, fun _ => .inl ?_, fun t ht => ?_⟩
  ·have := md_lt h (g := 1) (show i < i + 1 by omega)
   omega
  ·obtain rfl : t = i := by omega
   exact .inr ⟨hm, by omega⟩
theorem mid_near {f : Int} {F : Fmt} (h : Fm f F) (neg : Bool) {i : Nat} (hi : i < F.inf) : Ev (fun k => round_Nearest.f k f neg (lb (mdm F i)) (mdx F i)) (((pat F neg (if i % 2 = 0 then i else i + 1) : Nat) : Int), 0) := by
 have hz := h.sz
 have r := mdx_rng h (show i < F.sg by omega)
 have n := nearest_ev h (mid_dk h neg (show i < F.sg by omega)) (E := F.low - 1) r.1 (by omega)
 have e : rnd F neg (mdm F i) (mdx F i) (F.low - 1) = pat F neg (if i % 2 = 0 then i else i + 1) := by
  unfold rnd
  rw [if_neg (by unfold mdm; omega)]
  have hv := mid_vs h false i (F.low - 1) (Int.le_refl _)
  have e0 : (F.low - 1 - (F.low - 1)).toNat = 0 := by omega
  have e1 : (F.low - (F.low - 1)).toNat = 1 := by omega
  unfold vs at hv
  rw [if_neg (by decide), if_neg (by decide), e0, Nat.pow_zero, Nat.mul_one] at hv
  have hv2 : mdm F i * 2^(mdx F i - (F.low - 1)).toNat = nF F i + nF F (i + 1) := by omega
  rw [e1, hv2, rsz_mid h hi]
 rwa [e] at n
theorem at_mid {f : Int} {F : Fmt} (h : Fm f F) (neg : Bool) {i j : Nat} (hi : i < F.inf) (hj : j < F.inf) : Ev (fun k => gnomonlaw08_at.f k neg (lb (mdm F i)) (mdx F i) neg (lb (mdm F j)) (mdx F j)) (cmZ (if neg then -((nF F i + nF F (i + 1) : Nat) : Int) else ((nF F i + nF F (i + 1) : Nat) : Int)) (if neg then -((nF F j + nF F (j + 1) : Nat) : Int) else ((nF F j + nF F (j + 1) : Nat) : Int))) := by
 have hz := h.sz
 have d1 := mid_dk h neg (show i < F.sg by omega)
 have d2 := mid_dk h neg (show j < F.sg by omega)
 have r1 := mdx_rng h (show i < F.sg by omega)
 have r2 := mdx_rng h (show j < F.sg by omega)
 have a := at_ev d1 d2
 rw [dcm_vs (E := F.low - 1) r1.1 r2.1, mid_vs h neg i (F.low - 1) (Int.le_refl _), mid_vs h neg j (F.low - 1) (Int.le_refl _)] at a
 have e0 : (F.low - 1 - (F.low - 1)).toNat = 0 := by omega
 rw [e0, Nat.pow_zero, Nat.mul_one, Nat.mul_one] at a
 exact a
theorem cmZ_self (a : Int) : cmZ a a = 0 := by unfold cmZ; rw [if_neg (Int.lt_irrefl _), if_neg (Int.lt_irrefl _)]
theorem cmZ_lt {a b : Int} (h : a < b) : cmZ a b = -1 := if_pos h
theorem law_ev (a0 : Bool) (b : Nat) (hb : b < 18446744073709551616) : Ev (fun k => gnomonlaw08_RoundMeets.f k a0 (b : Int)) true := by
 obtain ⟨f, F, c, h, ef, ep, hc⟩ := pat_f a0 b hb
 have hz := h.sz
 unfold gnomonlaw08_RoundMeets.f
 rw [ef, ep]
 simp only [Option.bind_some]
 refine Ev.bind cell_2 (Ev.bind num_3 (Ev.bind num_5 (Ev.bind spans_2 (Ev.congr (fun k => if_pos rfl) (Ev.congr (fun k => if_pos rfl) (Ev.succ ?_))))))
 obtain ⟨epat, hs⟩ := pat_of hc (show 0 < F.sg by omega)
 generalize decide (F.sg ≤ c) = neg at *
 generalize c % F.sg = s at *
 subst epat
 clear hc ep
 have J1 : ∀ n, Ev (fun k => gnomonlaw08_RoundMeets.j1 k ((pat F neg s : Nat) : Int) f n true) true := fun n => Ev.succ (by
  simp only [gnomonlaw08_RoundMeets.j1]
  exact Ev.congr (fun k => if_pos trivial) (Ev.now _))
 obtain ⟨r, hr⟩ := next_any h neg hs
 simp only [gnomonlaw08_RoundMeets.j0]
 refine Ev.congr (fun k => if_neg (by decide)) ?_
 rw [lawFin_pat h neg hs]
 simp only [Option.bind_some]
 by_cases cf : s < F.inf
 ·by_cases c0 : s = 0
  ·refine Ev.bind hr (Ev.congr (fun k => if_pos (decide_eq_true cf)) (Ev.congr (fun k => if_pos (decide_eq_true c0)) (J1 _)))
  ·have N : Ev (fun k => binary_Next.f k f ((pat F neg s : Nat) : Int)) (((pat F neg (if neg then s - 1 else s + 1) : Nat) : Int), 0) := by
    cases neg
    ·exact next_pos h cf
    ·exact next_neg h c0 (by omega)
   refine Ev.bind N (Ev.congr (fun k => if_pos (decide_eq_true cf)) (Ev.congr (fun k => if_neg (by rw [decide_eq_false c0]; decide)) (Ev.succ ?_)))
   simp only [gnomonlaw08_RoundMeets.j1]
   refine Ev.congr (fun k => if_neg (by decide)) (Ev.bind (cell_pat h neg c0 cf) (Ev.congr (fun k => if_pos rfl) ?_))
   obtain ⟨hi, ehi⟩ : ∃ hi, hi = (if neg then s - 1 else s) := ⟨_, rfl⟩
   obtain ⟨lo, elo⟩ : ∃ lo, lo = (if neg then s else s - 1) := ⟨_, rfl⟩
   obtain ⟨nx, enx⟩ : ∃ nx, nx = (if neg then s - 1 else s + 1) := ⟨_, rfl⟩
   have hhi : hi < F.inf := by rw [ehi]; split <;> omega
   have hlo : lo < F.inf := by rw [elo]; split <;> omega
   have A := at_mid h neg hlo hhi
   rw [cmZ_lt (by
    cases neg
    ·have l1 : lo < hi := by rw [elo, ehi, if_neg (by decide), if_neg (by decide)]; omega
     have l2 := nF_lt h l1
     have l3 := nF_lt h (show lo + 1 < hi + 1 by omega)
     rw [if_neg (by decide), if_neg (by decide)]
     omega
    ·have l1 : hi < lo := by rw [elo, ehi, if_pos rfl, if_pos rfl]; omega
     have l2 := nF_lt h l1
     have l3 := nF_lt h (show hi + 1 < lo + 1 by omega)
     rw [if_pos rfl, if_pos rfl]
     omega)] at A
   simp only
   rw [← ehi, ← elo, ← enx]
   refine Ev.bind A (Ev.succ ?_)
   simp only [gnomonlaw08_RoundMeets.j2]
   refine Ev.congr (fun k => if_neg (by decide)) (Ev.bind (mid_near h neg hhi) (Ev.congr (fun k => if_pos rfl) ?_))
   have J3 : Ev (fun k => gnomonlaw08_RoundMeets.j3 k f ((pat F neg nx : Nat) : Int) (decide (s % 2 = 0)) false neg (lb (mdm F lo)) (mdx F lo) neg (lb (mdm F hi)) (mdx F hi)) true := by
    refine Ev.succ ?_
    simp only [gnomonlaw08_RoundMeets.j3]
    refine Ev.congr (fun k => if_neg (by decide)) ?_
    have hnx : nx < F.sg := by rw [enx]; split <;> omega
    rw [lawFin_pat h neg hnx]
    simp only [Option.bind_some]
    have J4 : ∀ q, (q = false → nx < F.inf ∧ nx ≠ 0) → Ev (fun k => gnomonlaw08_RoundMeets.j4 k f ((pat F neg nx : Nat) : Int) (decide (s % 2 = 0)) q neg (lb (mdm F lo)) (mdx F lo) neg (lb (mdm F hi)) (mdx F hi)) true := by
     intro q hq
     refine Ev.succ ?_
     simp only [gnomonlaw08_RoundMeets.j4]
     cases q
     ·obtain ⟨q1, q2⟩ := hq rfl
      refine Ev.congr (fun k => if_neg (by decide)) (Ev.bind (cell_pat h neg q2 q1) (Ev.congr (fun k => if_pos rfl) ?_))
      have e1 : (if neg then nx else nx - 1) = hi := by rw [enx, ehi]; cases neg <;> simp
      have A2 := at_mid h neg hhi hhi
      rw [cmZ_self] at A2
      simp only
      rw [e1]
      refine Ev.bind A2 (Ev.congr (fun k => if_pos rfl) ?_)
      have e2 : (decide (s % 2 = 0) != decide (nx % 2 = 0)) = true := by
       have : nx % 2 = (s + 1) % 2 := by rw [enx]; cases neg <;> simp <;> omega
       rw [this]
       by_cases z : s % 2 = 0
       ·rw [decide_eq_true z, decide_eq_false (by omega)]; rfl
       ·rw [decide_eq_false z, decide_eq_true (by omega)]; rfl
      rw [e2]
      exact Ev.now _
     ·exact Ev.congr (fun k => if_pos rfl) (Ev.now _)
    by_cases q1 : nx < F.inf
    ·refine Ev.congr (fun k => if_pos (decide_eq_true q1)) (J4 _ (fun z => ⟨q1, of_decide_eq_false z⟩))
    ·refine Ev.congr (fun k => if_neg (by rw [decide_eq_false q1]; decide)) (J4 true (fun z => by cases z))
   by_cases z : s % 2 = 0
   ·rw [decide_eq_true z] at J3 ⊢
    have e3 : (if hi % 2 = 0 then hi else hi + 1) = s := by
     rw [ehi]
     cases neg
     ·rw [if_neg (show ¬ false = true by decide), if_pos z]
     ·rw [if_pos rfl, if_neg (by omega)]; omega
    rw [e3]
    refine Ev.congr (fun k => if_pos rfl) (Ev.congr (fun k => if_pos rfl) ?_)
    exact J3
   ·rw [decide_eq_false z] at J3 ⊢
    refine Ev.congr (fun k => if_neg (by decide)) ?_
    have e3 : (if hi % 2 = 0 then hi else hi + 1) ≤ F.inf := by split <;> omega
    refine Ev.bind (lawRank_pat h neg e3) (Ev.bind (lawRank_pat h neg (show s ≤ F.inf by omega)) ?_)
    have e4 : (rkI neg (if hi % 2 = 0 then hi else hi + 1) != wrap64 (rkI neg s + 1)) = false := by
     have e5 : rkI neg (if hi % 2 = 0 then hi else hi + 1) = rkI neg s + 1 := by
      rw [ehi]
      unfold rkI
      cases neg
      ·rw [if_neg (show ¬ false = true by decide), if_neg (show ¬ false = true by decide), if_neg (show ¬ false = true by decide), if_neg z]; omega
      ·rw [if_pos rfl, if_pos rfl, if_pos rfl, if_pos (by omega)]; omega
     have e6 : wrap64 (rkI neg s + 1) = rkI neg s + 1 := by
      unfold rkI
      cases neg
      ·rw [if_neg (by decide)]; exact w64 (by omega) (by omega)
      ·rw [if_pos rfl]; exact w64 (by omega) (by omega)
     rw [e5, e6]; simp
    rw [e4]
    exact J3
 ·refine Ev.bind hr (Ev.congr (fun k => if_neg (by rw [decide_eq_false cf]; decide)) (J1 _))
end Go.Proofs.YtelfmddcjlocpaaDoor.RoundMeetsL
