/- Accept is sure at every narrower margin, with the same pattern. Plain Lean. No condition. The contract of the reference's InCell: does a fraction lie in the rounding cell of a pattern. Conditions: numbers of less than 2^37 digits, the denominator above nought. -/
import Derived.Test.YtelfmddcjlocpaaDoorKAcceptMiddlesAskNarrow
import Derived.Test.YtelfmddcjlocpaaDoorKAcceptMiddlesEft
import Derived.Test.YtelfmddcjlocpaaDoorKAcceptMiddlesProdB
import Derived.Lib.Hide
import Derived.Deep.RegionHeld3
import Derived.Deep.DeepCutAuto
section
namespace Go.Proofs.YtelfmddcjlocpaaDoor.AccW
open Go.RowKit Go.Proofs.YtelfmddcjlocpaaDoor.FW Go.Proofs.YtelfmddcjlocpaaDoor.Eft Go.Proofs.YtelfmddcjlocpaaDoor.EftLaw Fl
theorem ord_inf_fin {s x : Nat} (hs : sz s = INF) (hx : fin x) : (FloatKind.f64.format.order s x == some .eq) = false := by
 obtain ⟨n, j, hy1, _, _⟩ := read_fin hx
 show (Ieee.double.order s x == some .eq) = false
 unfold Ieee.Format.order
 rw [read_inf hs, hy1]
 cases ng s <;> rfl
theorem form_law {x y : Nat} (h : FormR x y true) (h2 : sz x ≤ 8660422083433463808) : fin x ∧ fin y ∧ rnI 0 (U x + U y) = U x := by
 rcases h with ⟨fx, fy, s, hs, he⟩ | ⟨_, h⟩
 ·refine ⟨fx, fy, ?_⟩
  obtain ⟨_, bx⟩ := atMost_995 (a := x) (by omega)
  have hT := T0_pos
  by_cases ht : (U x + U y).natAbs ≤ top 0
  ·have i := fop_add hs fx fy ht
   have e := (eq_fin i.fin fx).symm.trans he.symm
   rw [← val0 i]
   exact of_decide_eq_true e
  ·exfalso
   obtain ⟨r, hr, hi⟩ := add_isn fx fy
   obtain rfl : s = r := hs.val r hr
   have hsz := hi.size
   by_cases fs : fin s
   ·have e := of_decide_eq_true ((eq_fin fs fx).symm.trans he.symm)
    have hlt : sz s < INF := fs
    have h1 : sz s = rung 0 (U x + U y).natAbs := by omega
    have h2 := mg_rung 0 (U x + U y).natAbs
    rw [Nat.pow_zero, Nat.mul_one, ← h1, ← U_natAbs] at h2
    have h3 := rn_mono (g := 0) (v := ((top 0 : Nat) : Int)) (w := (((U x + U y).natAbs : Nat) : Int)) (by omega)
    have hF : isF 0 ((top 0 : Nat) : Int) := by rw [top_T]; exact isF_T _ (by decide)
    rw [rnI_exact hF] at h3
    have h4 := rnI_natAbs 0 (((U x + U y).natAbs : Nat) : Int)
    rw [Int.natAbs_natCast, ← h2] at h4
    have ht2 := top_T
    rw [e] at h4
    omega
   ·have h1 : sz s = INF := by unfold fin at fs; omega
    rw [ord_inf_fin h1 fx] at he
    cases he
 ·cases h
theorem form_det {x y : Nat} (h : FormR x y true) (h' : FormR x y false) : False := by
 rcases h with ⟨fx, fy, s, hs, he⟩ | ⟨_, h⟩
 ·obtain ⟨r, hr, _⟩ := add_isn fx fy
  rcases h' with ⟨_, _, s', hs', he'⟩ | ⟨h', _⟩
  ·obtain rfl : s = r := hs.val r hr
   obtain rfl : s' = s := hs'.val s hr
   rw [← he] at he'
   cases he'
  ·exact h' ⟨fx, fy⟩
 ·cases h
theorem way_vals {g x y : Nat} {i : Int} {u d : Nat} (hg : g = 1074) (c1 : -100 ≤ i) (c2 : i ≤ -56) (h1 : 553942754166571008 ≤ sz x) (h2 : sz x ≤ 8660422083433463808) (fy : fin y) (hy : (U y).natAbs ≤ (U x).natAbs) (hw : Way x y i u d) :
  ∃ n : Nat, ∃ m : Int, (n : Int) = i + 1073 ∧ 2^55 * m.natAbs ≤ (U x).natAbs ∧ m * 2^g = rnI g (U (sz x) * ((3 * 2^n : Nat) : Int)) ∧ fin u ∧ fin d ∧ u < 18446744073709551616 ∧
   U u = rnI 0 (U x + rnI 0 (U y + m)) ∧ U d = rnI 0 (U x + rnI 0 (U y - m)) := by
 obtain ⟨L, m, u1, d1, a1, a2, a3, a4, a5, a6⟩ := hw.out
 obtain ⟨n, hn, fm, hm, vm⟩ := margin_val hg c1 c2 h1 h2 a1 a2
 obtain ⟨fx, bx⟩ := atMost_995 (a := x) (by omega)
 have hT := T0_pos
 have m3 : (U y + U m).natAbs ≤ 2^25 * T0 := by omega
 have i3 := fop_add a3 fy fm (le_top0 m3 (by decide))
 have b3 := rn_le_T m3 (by decide)
 have v3 := val0 i3
 rw [← v3] at b3
 have i4 := fop_add a4 fx i3.fin (le_top0 (m := 2^26) (by omega) (by decide))
 have m5 : (U y - U m).natAbs ≤ 2^25 * T0 := by omega
 have i5 := fop_sub a5 fy fm (le_top0 m5 (by decide))
 have b5 := rn_le_T m5 (by decide)
 have v5 := val0 i5
 rw [← v5] at b5
 have i6 := fop_add a6 fx i5.fin (le_top0 (m := 2^26) (by omega) (by decide))
 exact ⟨n, U m, hn, hm, vm, i4.fin, i6.fin, a4.lt, by rw [← v3]; exact val0 i4, by rw [← v5]; exact val0 i6⟩
theorem rn_twice (v : Int) : (rnI 0 v).natAbs ≤ 2 * v.natAbs := by
 have := rnI_near (isF_zero 0) (v := v)
 omega
theorem not_zero {x : Nat} {t : Int} (h1 : 553942754166571008 ≤ sz x) (ht : 4 * t.natAbs ≤ (U x).natAbs) : rnI 0 (U x + t) ≠ 0 := by
 have hb := big900 h1
 have n := rnI_near (U_isF x) (v := U x + t)
 intro h
 rw [h] at n
 omega
theorem AcceptR.fit {x y : Nat} {i : Int} {r : Nat} (h : AcceptR x y i r true) : -100 ≤ i ∧ i ≤ -56 ∧ 553942754166571008 ≤ sz x ∧ sz x ≤ 8660422083433463808 ∧ FormR x y true ∧ ∃ d, Way x y i r d ∧ (FloatKind.f64.format.order r d != some .eq) = false := by
 rcases h with ⟨_, _, h⟩ | ⟨hf, u, d, hw, h⟩
 ·cases h
 ·rcases hf with ⟨c1, c2, h1, h2, hf⟩ | ⟨_, h⟩
  ·rcases h with ⟨_, _, h⟩ | ⟨h, rfl, _⟩
   ·cases h
   ·exact ⟨c1, c2, h1, h2, hf, d, hw, h⟩
  ·cases h
theorem sure_vals {x y r : Nat} {i : Int} (h : AcceptR x y i r true) : U r ≠ 0 ∧ r < 18446744073709551616 ∧ ∀ g : Nat, g = 1074 → ∀ n : Nat, (n : Int) ≤ i + 1073 → ∀ m : Int, m * 2^g = rnI g (U (sz x) * ((3 * 2^n : Nat) : Int)) →
  rnI 0 (U x + rnI 0 (U y + m)) = U r ∧ rnI 0 (U x + rnI 0 (U y - m)) = U r := by
 obtain ⟨c1, c2, h1, h2, hf, d, hw, ho⟩ := h.fit
 obtain ⟨fx, fy, hs⟩ := form_law hf h2
 have hsm := small_of hs
 obtain ⟨g0, hg0⟩ : ∃ g, g = 1074 := ⟨_, rfl⟩
 obtain ⟨n0, m0, hn0, hm0, vm0, fu, fd, hlt, vu, vd⟩ := way_vals hg0 c1 c2 h1 h2 fy (by omega) hw
 have hud : U r = U d := by
  have e := (ne_fin fu fd).symm.trans ho
  have := of_decide_eq_false e
  omega
 refine ⟨?_, hlt, ?_⟩
 ·rw [vu]
  refine not_zero h1 ?_
  have := rn_twice (U y + m0)
  omega
 ·intro g hg n hn m hm
  have eg : g = g0 := by omega
  subst eg
  obtain ⟨p1, p2⟩ := margin_le (n := n0) (n' := n) (by omega) vm0 hm
  have k1 := rn_mono (g := 0) (v := U y + m) (w := U y + m0) (by omega)
  have k2 := rn_mono (g := 0) (v := U y - m) (w := U y + m) (by omega)
  have k3 := rn_mono (g := 0) (v := U y - m0) (w := U y - m) (by omega)
  have q1 := rn_mono (g := 0) (v := U x + rnI 0 (U y + m)) (w := U x + rnI 0 (U y + m0)) (by omega)
  have q2 := rn_mono (g := 0) (v := U x + rnI 0 (U y - m)) (w := U x + rnI 0 (U y + m)) (by omega)
  have q3 := rn_mono (g := 0) (v := U x + rnI 0 (U y - m0)) (w := U x + rnI 0 (U y - m)) (by omega)
  rw [← vu] at q1
  rw [← vd] at q3
  omega
end Go.Proofs.YtelfmddcjlocpaaDoor.AccW
end
section
namespace Go.Proofs.YtelfmddcjlocpaaDoor.InCell
open Go.RowKit Go.Proofs.YtelfmddcjlocpaaDoorW.PrintWords Go.Proofs.YtelfmddcjlocpaaDoorW.PrintMore Go.Proofs.YtelfmddcjlocpaaDoor.Num Go.Proofs.YtelfmddcjlocpaaDoor.Ref Go.Proofs.YtelfmddcjlocpaaDoor.FW Go.Proofs.YtelfmddcjlocpaaDoor.Eft Go.Proofs.YtelfmddcjlocpaaDoor.EftLaw Fl
theorem on {W w w' : World} (h : Below W.heap.size W w) (k : Below w.heap.size w w') : Below W.heap.size W w' := h.trans (k.mono h.size)
def low (s : Nat) : Nat := mg (s - 1) + mg s
def high (s : Nat) : Nat := mg s + mg (s + 1)
def InC (a b : Int) (r : Nat) : Prop := zn a = ng r ∧ sz r ≠ 0 ∧ sz r + 1 < INF ∧ (if sz r % 2 = 0 then low (sz r) * b ≤ 2 * a.natAbs ∧ 2 * a.natAbs ≤ high (sz r) * b else low (sz r) * b < 2 * a.natAbs ∧ 2 * a.natAbs < high (sz r) * b)
end Go.Proofs.YtelfmddcjlocpaaDoor.InCell
end
