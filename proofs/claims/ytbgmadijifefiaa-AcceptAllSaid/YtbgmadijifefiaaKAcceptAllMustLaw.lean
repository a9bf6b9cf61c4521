/- Where both ends of twice the margin lie in the cell of the rounded number, Accept is sure. Plain Lean. Conditions: as each lemma says. -/
import Derived.Test.YtbgmadijifefiaaKAcceptAllSoundLaw
import Derived.Test.YtbgmadijifefiaaKAcceptAllFitLaw
import Derived.Test.YtbgmadijifefiaaKAcceptAllMustW
namespace Go.Proofs.Ytbgmadijifefiaa.MustLaw
open Go.Proofs.Ytbgmadijifefiaa.FW Go.Proofs.Ytbgmadijifefiaa.Eft Go.Proofs.Ytbgmadijifefiaa.EftLaw Go.Proofs.Ytbgmadijifefiaa.AccW Go.Proofs.Ytbgmadijifefiaa.Ref Go.Proofs.Ytbgmadijifefiaa.Cell Go.Proofs.Ytbgmadijifefiaa.InCell Go.Proofs.Ytbgmadijifefiaa.SoundLaw Go.Proofs.Ytbgmadijifefiaa.FitLaw Go.Proofs.Ytbgmadijifefiaa.MustW Fl
set_option linter.unusedVariables false
theorem le_of_mul_pos {a b P : Int} (hP : 0 < P) (h : a * P ≤ b * P) : a ≤ b := Int.le_of_mul_le_mul_right h hP
theorem lt_of_mul_pos {a b P : Int} (hP : 0 < P) (h : a * P < b * P) : a < b := Int.lt_of_mul_lt_mul_right h (by omega)
theorem inz_of_bounds {N : Int} {s : Nat} (hN : 0 ≤ N) (h1 : (low s : Int) ≤ 2 * N) (h2 : 2 * N ≤ (high s : Int)) (h3 : s % 2 ≠ 0 → (low s : Int) < 2 * N ∧ 2 * N < (high s : Int)) : InZ N.natAbs s := by
 have e : ((N.natAbs : Nat) : Int) = N := by omega
 unfold low high at *
 unfold InZ
 split
 ·exact ⟨by omega, by omega⟩
 ·rename_i hc
  have := h3 hc
  exact ⟨by omega, by omega⟩
theorem cells {V P : Int} {r : Nat} {a1 a2 : Int} (hP : 0 < P) (e1 : (a1.natAbs : Int) = V * (P - 1)) (e2 : (a2.natAbs : Int) = V * (P + 1)) (h1 : InC a1 P r) (h2 : InC a2 P r) :
  (low (sz r) : Int) * P ≤ 2 * (V * (P - 1)) ∧ 2 * (V * (P + 1)) ≤ (high (sz r) : Int) * P ∧ (sz r % 2 ≠ 0 → (low (sz r) : Int) * P < 2 * (V * (P - 1)) ∧ 2 * (V * (P + 1)) < (high (sz r) : Int) * P) := by
 obtain ⟨_, _, _, q1⟩ := h1
 obtain ⟨_, _, _, q2⟩ := h2
 rw [e1] at q1
 rw [e2] at q2
 split at q1
 ·rename_i hc
  rw [if_pos hc] at q2
  exact ⟨q1.1, q2.2, fun h => absurd hc h⟩
 ·rename_i hc
  rw [if_neg hc] at q2
  exact ⟨by omega, by omega, fun _ => ⟨q1.1, q2.2⟩⟩
theorem core_must {q X0 : Nat} {Y m V P : Int} {r : Nat} {a1 a2 : Int} (hq1 : 56 ≤ q) (hq2 : q ≤ 100) (hX0 : 2^120 ≤ X0) (hY : 2^52 * Y.natAbs ≤ X0) (h0 : 0 ≤ m) (h1 : 14 * (X0 : Int) ≤ 10 * (2^q * m)) (h1' : 10 * (2^q * m) ≤ 16 * X0)
  (hV : V = X0 + Y) (hQ : (2:Int)^q = 2 * P) (e1 : (a1.natAbs : Int) = V * (P - 1)) (e2 : (a2.natAbs : Int) = V * (P + 1)) (i1 : InC a1 P r) (i2 : InC a2 P r) :
  rnI 0 ((X0 : Int) + rnI 0 (Y + m)) = rnI 0 ((X0 : Int) + rnI 0 (Y - m)) := by
 obtain ⟨_, _, c3, c4⟩ := ends (X := (X0 : Int)) (Y := Y) (m := m) (V := V) hq1 hq2 rfl (by omega) (by rw [Int.natAbs_natCast]; exact hY) h0 h1 h1' rfl rfl hV
 have q1 : (2:Int)^56 ≤ 2^q := pow_le_of hq1
 have hmq : 72057594037927936 * m ≤ 2^q * m := Int.mul_le_mul_of_nonneg_right q1 h0
 have t1 := rn_twice (Y + m)
 have t2 := rn_twice (Y - m)
 have mono := rn_mono (g := 0) (v := Y - m) (w := Y + m) (by omega)
 have hP : 0 < P := by omega
 obtain ⟨l1, l2, l3⟩ := cells hP e1 e2 i1 i2
 have hs0 : sz r ≠ 0 := i1.2.1
 have pA : 0 ≤ (X0 : Int) + rnI 0 (Y + m) := by omega
 have pB : 0 ≤ (X0 : Int) + rnI 0 (Y - m) := by omega
 obtain ⟨A, hA⟩ : ∃ A, A = rnI 0 (Y + m) := ⟨_, rfl⟩
 obtain ⟨B, hB⟩ : ∃ B, B = rnI 0 (Y - m) := ⟨_, rfl⟩
 rw [← hA] at c3 t1 mono pA ⊢
 rw [← hB] at c4 t2 mono pB ⊢
 rw [hQ] at c3 c4
 have d3 : ((X0 : Int) + A) * (2 * P) = 2 * (((X0 : Int) + A) * P) := by rw [← Int.mul_assoc, Int.mul_comm _ 2, Int.mul_assoc]
 have d4 : ((X0 : Int) + B) * (2 * P) = 2 * (((X0 : Int) + B) * P) := by rw [← Int.mul_assoc, Int.mul_comm _ 2, Int.mul_assoc]
 have d5 : V * (2 * P + 2) = 2 * (V * (P + 1)) := by rw [show 2 * P + 2 = 2 * (P + 1) by omega, ← Int.mul_assoc, Int.mul_comm V 2, Int.mul_assoc]
 have d6 : V * (2 * P - 2) = 2 * (V * (P - 1)) := by rw [show 2 * P - 2 = 2 * (P - 1) by omega, ← Int.mul_assoc, Int.mul_comm V 2, Int.mul_assoc]
 rw [d3, d5] at c3
 rw [d4, d6] at c4
 have u1 : 2 * ((X0 : Int) + A) ≤ (high (sz r) : Int) := le_of_mul_pos hP (by rw [Int.mul_assoc]; omega)
 have u2 : (low (sz r) : Int) ≤ 2 * ((X0 : Int) + B) := le_of_mul_pos hP (by rw [Int.mul_assoc]; omega)
 have u3 : sz r % 2 ≠ 0 → 2 * ((X0 : Int) + A) < (high (sz r) : Int) ∧ (low (sz r) : Int) < 2 * ((X0 : Int) + B) := fun h => by
  have l4 := l3 h
  exact ⟨lt_of_mul_pos hP (by rw [Int.mul_assoc]; omega), lt_of_mul_pos hP (by rw [Int.mul_assoc]; omega)⟩
 have zA := inz_of_bounds (N := (X0 : Int) + A) (s := sz r) pA (by omega) u1 (fun h => by have := u3 h; exact ⟨by omega, this.1⟩)
 have zB := inz_of_bounds (N := (X0 : Int) + B) (s := sz r) pB u2 (by omega) (fun h => by have := u3 h; exact ⟨this.2, by omega⟩)
 have rA := of_inz hs0 zA
 have rB := of_inz hs0 zB
 have mA := mg_rung 0 ((X0 : Int) + A).natAbs
 have mB := mg_rung 0 ((X0 : Int) + B).natAbs
 rw [rA] at mA
 rw [rB, mA] at mB
 unfold rnI
 rw [if_neg (by omega), if_neg (by omega), mB]
theorem must_law {x y r r' k : Nat} {i : Int} {ok : Bool} (hx : x < 18446744073709551616) (h : AcceptR x y i r ok) (hk : i = -((k : Int) + 1)) (hf : FitP x y i) (hm : MustP x y k r') : ok = true := by
 rcases h with ⟨hn, _⟩ | ⟨_, u, d, hw, h⟩
 ·exact (fit_not hf hn).elim
 ·obtain ⟨c1, c2, fx, fy, h1, h2, hp⟩ := hf
  rcases h with ⟨hne, _⟩ | ⟨_, _, h⟩
  ·exfalso
   have hs := of_rpat fx hp
   have hsm := small_of hs
   have hbig := big900 h1
   obtain ⟨g, hg⟩ : ∃ g, g = 1074 := ⟨_, rfl⟩
   obtain ⟨n', m, hn', hmm, vm, fu, fd, hlt, vu, vd⟩ := way_vals hg c1 c2 h1 h2 fy (by omega) hw
   have hud : U u ≠ U d := of_decide_eq_true ((ne_fin fu fd).symm.trans hne)
   have ux : U (sz x) = (((U x).natAbs : Nat) : Int) := by
    rw [U_natAbs, U_pos (show sz x < 2^63 from Nat.mod_lt _ (by decide))]
   rw [ux] at vm
   obtain ⟨m0, m1, m2⟩ := margin_q (g := g) (n := n') (x := (U x).natAbs) (q := k + 1) (m := m) (by omega) (by omega) hbig vm
   obtain ⟨i1, i2⟩ := hm
   have e2k : ((2^k : Nat) : Int) = (2:Int)^k := Int.natCast_pow 2 k
   rw [e2k] at i1 i2
   have hP0 := ipw k
   have hP1 : (2:Int)^55 ≤ 2^k := pow_le_of (by omega)
   have hQ : (2:Int)^(k + 1) = 2 * 2^k := by rw [Int.pow_succ, Int.mul_comm]
   apply hud
   rcases Int.lt_trichotomy (U x) 0 with hx' | hx' | hx'
   ·have e0 : (((U x).natAbs : Nat) : Int) = -U x := by omega
    have hV : 0 < -(U x + U y) := by omega
    have k1 := Int.mul_nonneg (show 0 ≤ -(U x + U y) by omega) (show 0 ≤ (2:Int)^k - 1 by omega)
    have k2 := Int.mul_nonneg (show 0 ≤ -(U x + U y) by omega) (show 0 ≤ (2:Int)^k + 1 by omega)
    have hc := core_must (X0 := (U x).natAbs) (Y := -U y) (V := -(U x + U y)) (q := k + 1) (P := 2^k) (by omega) (by omega) hbig (by rw [Int.natAbs_neg]; omega) m0 m1 m2 (by omega) hQ
     (by rw [Int.neg_mul] at k1 ⊢; omega) (by rw [Int.neg_mul] at k2 ⊢; omega) i1 i2
    have a1 : -U y + m = -(U y - m) := by omega
    have a2 : -U y - m = -(U y + m) := by omega
    rw [e0, a1, a2, rnI_neg, rnI_neg, ← Int.neg_add, ← Int.neg_add, rnI_neg, rnI_neg, ← vd, ← vu] at hc
    omega
   ·omega
   ·have e0 : (((U x).natAbs : Nat) : Int) = U x := by omega
    have k1 := Int.mul_nonneg (show 0 ≤ U x + U y by omega) (show 0 ≤ (2:Int)^k - 1 by omega)
    have k2 := Int.mul_nonneg (show 0 ≤ U x + U y by omega) (show 0 ≤ (2:Int)^k + 1 by omega)
    have hc := core_must (X0 := (U x).natAbs) (Y := U y) (V := U x + U y) (q := k + 1) (P := 2^k) (by omega) (by omega) hbig (by omega) m0 m1 m2 (by omega) hQ (by omega) (by omega) i1 i2
    rw [e0, ← vu, ← vd] at hc
    exact hc
  ·exact h
end Go.Proofs.Ytbgmadijifefiaa.MustLaw
