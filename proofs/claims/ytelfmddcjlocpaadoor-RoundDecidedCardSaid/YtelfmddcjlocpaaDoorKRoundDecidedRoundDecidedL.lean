/- Where Decide tells a pattern, both ends and every number between them round to it; where it tells none, the ends round to two: the plain law. Plain Lean over the printed functions. Conditions: lists of words. -/
import Derived.Test.YtelfmddcjlocpaaDoorKRoundDecidedRp4
import Derived.Test.YtelfmddcjlocpaaDoorKRoundDecidedPLibx19
import Derived.Test.YtelfmddcjlocpaaDoorKRoundDecidedPLibx3
namespace Go.Proofs.YtelfmddcjlocpaaDoor.RoundDecidedL
open Go.RowKit Go.Proofs.YtelfmddcjlocpaaDoorW.PrintWords Go.Proofs.YtelfmddcjlocpaaDoorW.PrintMore Go.Proofs.YtelfmddcjlocpaaDoor.Num Go.Proofs.YtelfmddcjlocpaaDoor.PLib Go.Proofs.YtelfmddcjlocpaaDoor.Ref Go.Proofs.YtelfmddcjlocpaaDoor.GTh Go.Proofs.YtelfmddcjlocpaaDoor.Given Go.Proofs.YtelfmddcjlocpaaDoor.Rp1 Go.Proofs.YtelfmddcjlocpaaDoor.Rp2 Go.Proofs.YtelfmddcjlocpaaDoor.Rp3 Go.Proofs.YtelfmddcjlocpaaDoor.Rp4 Go.Proofs.YtelfmddcjlocpaaDoor.BinLaw Go.Proofs.YtelfmddcjlocpaaDoor.Fm8 Go.Proofs.YtelfmddcjlocpaaDoor.Rnd
theorem j1_bad (f : Int) (n1 : Bool) (l1 : List Int) (x1 : Int) (n2 : Bool) (l2 : List Int) (x2 : Int) (n3 : Bool) (l3 : List Int) (x3 : Int) : Ev (fun k => gnomonlaw08_RoundDecided.j1 k f 0 false 2 true n1 l1 x1 n2 l2 x2 n3 l3 x3) true :=
 Ev.step (f := fun _ => some true) (fun k => by rw [gnomonlaw08_RoundDecided.j1, if_pos rfl, if_pos rfl, if_neg (by decide)]; rfl) (Ev.now _)
theorem j3_now (f w : Int) (n3 : Bool) (l3 : List Int) (x3 : Int) : Ev (fun k => gnomonlaw08_RoundDecided.j3 k f w true n3 l3 x3) true :=
 Ev.step (f := fun _ => some true) (fun k => by rw [gnomonlaw08_RoundDecided.j3, if_pos rfl]) (Ev.now _)
theorem law_ev (a0 n1 : Bool) (l1 : List Int) (x1 : Int) (n2 : Bool) (l2 : List Int) (x2 : Int) (n3 : Bool) (l3 : List Int) (x3 : Int) (w1 : Wf l1) (w2 : Wf l2) (w3 : Wf l3) :
  Ev (fun k => gnomonlaw08_RoundDecided.f k a0 n1 l1 x1 n2 l2 x2 n3 l3 x3) true := by
 obtain ⟨f, F, hf, ef⟩ := format_f a0
 unfold gnomonlaw08_RoundDecided.f
 rw [ef]
 simp only [Option.bind_some]
 refine Ev.bind num_1 (Ev.bind num_1 (Ev.bind decide_1 (Ev.congr (fun k => if_pos rfl) (Ev.congr (fun k => if_pos rfl) (Ev.congr (fun k => if_pos rfl) (Ev.bind awake_ev ?_))))))
 refine Ev.step (f := fun k => (round_Decide.f k f n1 l1 x1 n2 l2 x2).bind fun bt698 => ((gnomonref05_DocForm.f k n1 l1 x1).bind fun t701 => (if t701 = true then ((gnomonref05_DocForm.f k n2 l2 x2).bind fun t702 => (gnomonlaw08_RoundDecided.j1 k f bt698.1 bt698.2.1 bt698.2.2 (!t702) n1 l1 x1 n2 l2 x2 n3 l3 x3)) else (gnomonlaw08_RoundDecided.j1 k f bt698.1 bt698.2.1 bt698.2.2 true n1 l1 x1 n2 l2 x2 n3 l3 x3)))) (fun k => by rw [gnomonlaw08_RoundDecided.j0]; exact if_neg (by decide)) ?_
 cases e1 : dyB n1 l1 x1
 ·refine Ev.bind (decide_bad hf (.inl e1)) (Ev.bind (docForm_ev n1 l1 x1) ?_)
  rw [e1]
  exact Ev.congr (fun k => if_neg (by decide)) (j1_bad ..)
 ·cases e2 : dyB n2 l2 x2
  ·refine Ev.bind (decide_bad hf (.inr e2)) (Ev.bind (docForm_ev n1 l1 x1) ?_)
   rw [e1]
   refine Ev.congr (fun k => if_pos rfl) (Ev.bind (docForm_ev n2 l2 x2) ?_)
   rw [e2]
   exact j1_bad ..
  ·obtain ⟨m1, rfl, h1⟩ := dk_of w1 e1
   obtain ⟨m2, rfl, h2⟩ := dk_of w2 e2
   have g1 := docForm_ev n1 (lb m1) x1
   have g2 := docForm_ev n2 (lb m2) x2
   rw [e1] at g1
   rw [e2] at g2
   by_cases c : dcm n1 m1 x1 n2 m2 x2 ≤ 0
   ·obtain ⟨E, hE⟩ : ∃ E, E = min (min x1 x2) (min x3 F.low) := ⟨_, rfl⟩
    have hl1 : E ≤ x1 := by omega
    have hl2 : E ≤ x2 := by omega
    have hl3 : E ≤ x3 := by omega
    have hlF : E ≤ F.low := by omega
    obtain ⟨A, hA⟩ : ∃ A, A = rnd F n1 m1 x1 E := ⟨_, rfl⟩
    obtain ⟨B, hB⟩ : ∃ B, B = rnd F n2 m2 x2 E := ⟨_, rfl⟩
    have D := decide_ok hf h1 h2 c hl1 hl2 hlF
    have N1 := nearest_ev hf h1 hl1 hlF
    have N2 := nearest_ev hf h2 hl2 hlF
    rw [← hA] at N1
    rw [← hB] at N2
    rw [← hA, ← hB] at D
    have e01 : dcm n1 m1 x1 n2 m2 x2 ≠ 1 := by omega
    have e02 : ¬ dcm n1 m1 x1 n2 m2 x2 > 1 := by omega
    have M : ∀ m3, l3 = lb m3 → Dk n3 m3 x3 → A = B → dcm n1 m1 x1 n3 m3 x3 ≤ 0 → dcm n3 m3 x3 n2 m2 x2 ≤ 0 → rnd F n3 m3 x3 E = A := by
     intro m3 _ h3 e q1 q2
     rw [dcm_vs hl1 hl3, cmZ_le] at q1
     rw [dcm_vs hl3 hl2, cmZ_le] at q2
     rw [hA, hB, rnd_pv F h1, rnd_pv F h2] at e
     rw [hA, rnd_pv F h1, rnd_pv F h3]
     exact pv_mid hf q1 q2 e
    have J3 : ∀ m3, l3 = lb m3 → Dk n3 m3 x3 → A = B → dcm n1 m1 x1 n3 m3 x3 ≤ 0 → Ev (fun k => gnomonlaw08_RoundDecided.j3 k f (A : Int) (decide (dcm n3 m3 x3 n2 m2 x2 > 0)) n3 l3 x3) true := by
     intro m3 e3 h3 e q1
     by_cases q2 : dcm n3 m3 x3 n2 m2 x2 > 0
     ·rw [decide_eq_true q2]
      exact j3_now ..
     ·rw [decide_eq_false q2]
      refine Ev.succ ?_
      simp only [gnomonlaw08_RoundDecided.j3]
      have N3 := nearest_ev hf h3 hl3 hlF
      rw [M m3 e3 h3 e q1 (by omega)] at N3
      rw [e3]
      refine Ev.congr (fun k => if_neg (by decide)) (Ev.bind N3 (Ev.congr (fun k => if_pos rfl) ?_))
      simp only [beq_self_eq_true]
      exact Ev.now _
    by_cases e : A = B
    ·rw [if_pos e] at D
     refine Ev.bind D (Ev.bind g1 (Ev.congr (fun k => if_pos rfl) (Ev.bind g2 (Ev.succ ?_))))
     simp only [gnomonlaw08_RoundDecided.j1]
     refine Ev.congr (fun k => if_neg (by decide)) (Ev.bind (at_ev h1 h2) (Ev.congr (fun k => if_neg e01) (Ev.bind N1 (Ev.bind N2 (Ev.congr (fun k => if_neg e02) (Ev.congr (fun k => if_pos trivial) (Ev.congr (fun k => if_pos rfl) (Ev.congr (fun k => if_pos rfl) (Ev.congr (fun k => if_neg (show ¬ (true != ((A : Int) == (B : Int))) = true by simp [e])) (Ev.congr (fun k => if_pos trivial) (Ev.congr (fun k => if_pos rfl) (Ev.succ ?_))))))))))))
     simp only [gnomonlaw08_RoundDecided.j2]
     refine Ev.congr (fun k => if_neg (by decide)) (Ev.congr (fun k => if_pos trivial) (Ev.bind (docForm_ev n3 l3 x3) ?_))
     cases e3 : dyB n3 l3 x3
     ·exact Ev.congr (fun k => if_neg (by decide)) (j3_now ..)
     ·obtain ⟨m3, e4, h3⟩ := dk_of w3 e3
      have A1 := at_ev h1 h3
      have A2 := at_ev h3 h2
      rw [← e4] at A1 A2
      refine Ev.congr (fun k => if_pos rfl) (Ev.bind A1 ?_)
      by_cases q1 : dcm n1 m1 x1 n3 m3 x3 > 0
      ·exact Ev.congr (fun k => if_pos q1) (j3_now ..)
      ·exact Ev.congr (fun k => if_neg q1) (Ev.bind A2 (J3 m3 e4 h3 e (by omega)))
    ·rw [if_neg e] at D
     refine Ev.bind D (Ev.bind g1 (Ev.congr (fun k => if_pos rfl) (Ev.bind g2 (Ev.succ ?_))))
     simp only [gnomonlaw08_RoundDecided.j1]
     have e5 : (false != ((A : Int) == (B : Int))) = false := by simp; omega
     refine Ev.congr (fun k => if_neg (by decide)) (Ev.bind (at_ev h1 h2) (Ev.congr (fun k => if_neg e01) (Ev.bind N1 (Ev.bind N2 (Ev.congr (fun k => if_neg e02) (Ev.congr (fun k => if_pos trivial) (Ev.congr (fun k => if_pos rfl) (Ev.congr (fun k => if_pos rfl) (Ev.congr (fun k => if_neg (show ¬ (false != ((A : Int) == (B : Int))) = true by rw [e5]; decide)) (Ev.congr (fun k => if_neg (by decide)) (Ev.succ ?_)))))))))))
     simp only [gnomonlaw08_RoundDecided.j2]
     exact Ev.congr (fun k => if_neg (by decide)) (Ev.congr (fun k => if_neg (by decide)) (j3_now ..))
   ·have D := decide_gt hf h1 h2 c
    have e01 : dcm n1 m1 x1 n2 m2 x2 = 1 := by
     have := cmZ_3 (vs n1 m1 x1 (min x1 x2)) (vs n2 m2 x2 (min x1 x2))
     rw [← dcm_vs (by omega) (by omega)] at this
     omega
    refine Ev.bind D (Ev.bind g1 (Ev.congr (fun k => if_pos rfl) (Ev.bind g2 (Ev.succ ?_))))
    simp only [gnomonlaw08_RoundDecided.j1]
    exact Ev.congr (fun k => if_neg (by decide)) (Ev.bind (at_ev h1 h2) (Ev.congr (fun k => if_pos e01) (Ev.congr (fun k => if_pos trivial) (Ev.congr (fun k => if_neg (by decide)) (Ev.now _)))))
end Go.Proofs.YtelfmddcjlocpaaDoor.RoundDecidedL
