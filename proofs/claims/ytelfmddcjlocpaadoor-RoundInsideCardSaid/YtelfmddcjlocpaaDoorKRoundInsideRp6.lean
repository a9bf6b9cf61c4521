/- What the printed Next answers. Plain Lean over the printed functions. Conditions: finite sizes. -/
import Derived.Test.YtelfmddcjlocpaaDoorKRoundInsideRp5
import Derived.Test.YtelfmddcjlocpaaDoorKRoundInsidePxL2
namespace Go.Proofs.YtelfmddcjlocpaaDoor.Rp6
open Go.RowKit Go.Proofs.YtelfmddcjlocpaaDoorW.PrintWords Go.Proofs.YtelfmddcjlocpaaDoorW.PrintMore Go.Proofs.YtelfmddcjlocpaaDoor.Num Go.Proofs.YtelfmddcjlocpaaDoor.PLib Go.Proofs.YtelfmddcjlocpaaDoor.Ref Go.Proofs.YtelfmddcjlocpaaDoor.GTh Go.Proofs.YtelfmddcjlocpaaDoor.Given Go.Proofs.YtelfmddcjlocpaaDoor.Rp1 Go.Proofs.YtelfmddcjlocpaaDoor.Rp2 Go.Proofs.YtelfmddcjlocpaaDoor.Rp3 Go.Proofs.YtelfmddcjlocpaaDoor.Rp4 Go.Proofs.YtelfmddcjlocpaaDoor.Rp5 Go.Proofs.YtelfmddcjlocpaaDoor.BinLaw Go.Proofs.YtelfmddcjlocpaaDoor.Fm8 Go.Proofs.YtelfmddcjlocpaaDoor.Rnd
theorem next_pos {f : Int} {F : Fmt} (h : Fm f F) {s : Nat} (hs : s < F.inf) : Ev (fun k => binary_Next.f k f ((pat F false s : Nat) : Int)) (((pat F false (s + 1) : Nat) : Int), 0) := by
 have hz := h.sz
 unfold binary_Next.f
 have r := rank_pat h false (s := s) (by omega)
 have w1 : wrap64 ((F.inf : Nat) : Int) = ((F.inf : Nat) : Int) := w64 (by omega) (by omega)
 have w2 : IntKind.u64.wrap (wrap64 ((s : Int) + 1)) = ((s + 1 : Nat) : Int) := by rw [w64 (by omega) (by omega), wu64 (by omega) (by omega)]; omega
 have m1 := made_f h false (show s + 1 < F.sg by omega)
 have b1 := binf_f h
 rw [show rkI false s = (s : Int) from rfl] at r
 obtain ⟨R, hR⟩ : ∃ R : Int, R = (s : Int) := ⟨_, rfl⟩
 rw [← hR] at r w2
 generalize pat F false (s + 1) = P at *
 generalize F.inf = I at *
 generalize pat F false s = Q at *
 refine Ev.bind r ?_
 simp only [b1, Option.bind_some, if_true]
 generalize wrap64 (I : Int) = W at *
 generalize IntKind.u64.wrap (wrap64 (R + 1)) = V at *
 subst w1 w2
 refine Ev.congr (fun k => if_neg (by omega)) (Ev.congr (fun k => if_neg (by omega)) ?_)
 rw [m1]
 exact Ev.now _
theorem next_neg {f : Int} {F : Fmt} (h : Fm f F) {s : Nat} (h0 : s ≠ 0) (hs : s ≤ F.inf) : Ev (fun k => binary_Next.f k f ((pat F true s : Nat) : Int)) (((pat F true (s - 1) : Nat) : Int), 0) := by
 have hz := h.sz
 unfold binary_Next.f
 have r := rank_pat h true hs
 have w1 : wrap64 ((F.inf : Nat) : Int) = ((F.inf : Nat) : Int) := w64 (by omega) (by omega)
 have w2 : IntKind.u64.wrap (wrap64 (wrap64 (-(-(s : Int))) - 1)) = ((s - 1 : Nat) : Int) := by rw [w64 (x := -(-(s : Int))) (by omega) (by omega), w64 (by omega) (by omega), wu64 (by omega) (by omega)]; omega
 have m1 := made_f h true (show s - 1 < F.sg by omega)
 have b1 := binf_f h
 rw [show rkI true s = -(s : Int) from rfl] at r
 generalize pat F true (s - 1) = P at *
 generalize F.inf = I at *
 generalize pat F true s = Q at *
 refine Ev.bind r ?_
 simp only [b1, Option.bind_some, if_true]
 generalize wrap64 (I : Int) = W at *
 generalize IntKind.u64.wrap (wrap64 (wrap64 (-(-(s : Int))) - 1)) = V at *
 subst w1 w2
 refine Ev.congr (fun k => if_neg (by omega)) (Ev.congr (fun k => if_pos (by omega)) ?_)
 rw [m1]
 exact Ev.now _
theorem next_any {f : Int} {F : Fmt} (h : Fm f F) (neg : Bool) {s : Nat} (hs : s < F.sg) : ∃ r : Int × Int, Ev (fun k => binary_Next.f k f ((pat F neg s : Nat) : Int)) r := by
 have hz := h.sz
 by_cases c : s ≤ F.inf
 ·cases neg
  ·by_cases c2 : s = F.inf
   ·refine ⟨(0, 6), ?_⟩
    unfold binary_Next.f
    have r := rank_pat h false c
    have w1 : wrap64 ((F.inf : Nat) : Int) = ((F.inf : Nat) : Int) := w64 (by omega) (by omega)
    have b1 := binf_f h
    rw [show rkI false s = (s : Int) from rfl] at r
    obtain ⟨R, hR⟩ : ∃ R : Int, R = (s : Int) := ⟨_, rfl⟩
    rw [← hR] at r
    generalize F.inf = I at *
    generalize pat F false s = Q at *
    refine Ev.bind r ?_
    simp only [b1, Option.bind_some, if_true]
    generalize wrap64 (I : Int) = W at *
    exact Ev.congr (fun k => if_pos (by omega)) (Ev.now _)
   ·exact ⟨_, next_pos h (by omega)⟩
  ·by_cases c2 : s = 0
   ·subst c2
    refine ⟨(((pat F false 1 : Nat) : Int), 0), ?_⟩
    unfold binary_Next.f
    have r := rank_pat h true c
    have w1 : wrap64 ((F.inf : Nat) : Int) = ((F.inf : Nat) : Int) := w64 (by omega) (by omega)
    have w2 : IntKind.u64.wrap (wrap64 (0 + 1)) = ((1 : Nat) : Int) := by decide +kernel
    have m1 := made_f h false (s := 1) (by omega)
    have b1 := binf_f h
    rw [show rkI true 0 = (0 : Int) from rfl] at r
    obtain ⟨R, hR⟩ : ∃ R : Int, R = (0 : Int) := ⟨_, rfl⟩
    have r : Ev (fun k => binary_rank.f k f ((pat F true 0 : Nat) : Int)) (((F.wd : Nat) : Int), ((F.man : Nat) : Int), F.low, ((F.qt : Nat) : Int), R, 0) := by rw [hR]; exact r
    have w2 : IntKind.u64.wrap (wrap64 (R + 1)) = ((1 : Nat) : Int) := by rw [hR]; exact w2
    generalize pat F false 1 = P at *
    generalize F.inf = I at *
    generalize pat F true 0 = Q at *
    refine Ev.bind r ?_
    simp only [b1, Option.bind_some, if_true]
    generalize wrap64 (I : Int) = W at *
    generalize IntKind.u64.wrap (wrap64 (R + 1)) = V at *
    subst w2
    refine Ev.congr (fun k => if_neg (by omega)) (Ev.congr (fun k => if_neg (by omega)) ?_)
    rw [m1]
    exact Ev.now _
   ·exact ⟨_, next_neg h c2 c⟩
 ·refine ⟨(0, 6), ?_⟩
  unfold binary_Next.f
  refine Ev.bind (a := (((F.wd : Nat) : Int), ((F.man : Nat) : Int), F.low, ((F.qt : Nat) : Int), 0, 6)) ?_ (Ev.congr (fun k => if_neg (show ¬ (6 : Int) = 0 by decide)) (Ev.now _))
  unfold binary_rank.f
  refine Ev.bind (take_pat h neg hs) (Ev.congr (fun k => if_pos rfl) ?_)
  simp only
  rw [binf_f h]
  simp only [Option.bind_some]
  exact Ev.congr (fun k => if_pos (by omega)) (Ev.now _)
end Go.Proofs.YtelfmddcjlocpaaDoor.Rp6
