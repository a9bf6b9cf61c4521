/- Where Accept is sure, both ends of its margin lie in the cell of its pattern; and where the ends of twice the margin lie in one cell, it is sure. Plain Lean. Conditions: as each lemma says. -/
import Derived.Test.YtelfmddcjlocpaaDoorKAcceptMiddlesEft
import Derived.Test.YtelfmddcjlocpaaDoorKAcceptMiddlesInCell
namespace Go.Proofs.YtelfmddcjlocpaaDoor.SoundLaw
open Go.Proofs.YtelfmddcjlocpaaDoor.FW Go.Proofs.YtelfmddcjlocpaaDoor.Eft Go.Proofs.YtelfmddcjlocpaaDoor.EftLaw Go.Proofs.YtelfmddcjlocpaaDoor.AccW Go.Proofs.YtelfmddcjlocpaaDoor.Ref Go.Proofs.YtelfmddcjlocpaaDoor.Cell Go.Proofs.YtelfmddcjlocpaaDoor.InCell Fl
set_option linter.unusedVariables false
theorem err53 (v : Int) : 2^53 * (rnI 0 v - v).natAbs ≤ v.natAbs := by
 have he := rnI_err 0 v
 by_cases hk : ke 0 v = 0
 ·rw [hk, Int.pow_zero] at he
  have : (rnI 0 v - v).natAbs = 0 := by omega
  rw [this]; omega
 ·have hl := ke_le hk
  generalize (2:Int)^(ke 0 v) = Q at *
  omega
theorem errg (g : Nat) (v : Int) : 2^53 * (rnI g v - v).natAbs ≤ v.natAbs + 2^52 * 2^g := by
 have he := rnI_err g v
 have hp := Int.natCast_pow 2 g
 by_cases hk : ke g v = g
 ·rw [hk] at he
  have e2 : ((2^g : Nat) : Int) = (2:Int)^g := hp
  rw [← e2] at he
  generalize 2^g = Q at *
  omega
 ·have hl := ke_le hk
  generalize (2:Int)^(ke g v) = Q at *
  omega
theorem margin_q {g n x q : Nat} {m : Int} (hg : g = n + 1 + q) (hq : q ≤ 100) (hx : 2^120 ≤ x) (hm : m * 2^g = rnI g ((x : Int) * ((3 * 2^n : Nat) : Int))) :
  0 ≤ m ∧ 14 * (x : Int) ≤ 10 * (2^q * m) ∧ 10 * (2^q * m) ≤ 16 * x := by
 have he := errg g ((x : Int) * ((3 * 2^n : Nat) : Int))
 rw [← hm] at he
 have hp := Int.natCast_pow 2 n
 have e1 : (x : Int) * ((3 * 2^n : Nat) : Int) = 3 * x * 2^n := by
  have : ((3 * 2^n : Nat) : Int) = 3 * 2^n := by rw [Int.natCast_mul]; congr 1
  rw [this, ← Int.mul_assoc, Int.mul_comm (x : Int) 3]
 have e2 : m * 2^g = 2 * (2^q * m) * 2^n := by
  rw [hg, Int.pow_add, Int.pow_succ]
  have : m * (2^n * 2 * 2^q) = 2 * (2^q * m) * 2^n := by
   rw [Int.mul_comm m, Int.mul_assoc, Int.mul_assoc, Int.mul_comm (2^n : Int), ← Int.mul_assoc 2]
  exact this
 have e3 : (2:Nat)^g = 2 * 2^q * 2^n := by rw [show g = 1 + q + n by omega, Nat.pow_add, Nat.pow_add, Nat.pow_one]
 rw [e1, e2, ← Int.sub_mul, Int.natAbs_mul, Int.natAbs_mul, Int.natAbs_pow, ← Nat.mul_assoc, e3, ← Nat.mul_assoc] at he
 have e4 : (2:Int).natAbs = 2 := rfl
 rw [e4, ← Nat.add_mul] at he
 have he2 := Nat.le_of_mul_le_mul_right he (Nat.two_pow_pos n)
 have hQ : 2^q ≤ 2^100 := Nat.pow_le_pow_right (by decide) hq
 have hq1 := Nat.two_pow_pos q
 have hqp := ipw q
 clear he e1 e2 e3 hp hm
 obtain ⟨P, hP⟩ : ∃ P, P = (2:Int)^q * m := ⟨_, rfl⟩
 rw [← hP] at he2 ⊢
 have h1 : 14 * (x : Int) ≤ 10 * P ∧ 10 * P ≤ 16 * x := by
  clear hP hqp
  generalize 2^q = Q at *
  omega
 refine ⟨?_, h1⟩
 by_cases c : 0 ≤ m
 ·exact c
 ·have := Int.mul_neg_of_pos_of_neg hqp (show m < 0 by omega)
  omega
theorem lin1 {X Y m E QM QE YA QY : Int} (h1 : 14 * X ≤ 10 * QM) (h1' : 10 * QM ≤ 16 * X) (hY : -YA ≤ Y ∧ Y ≤ YA) (h2 : 9007199254740992 * E ≤ YA + m ∧ -(YA + m) ≤ 9007199254740992 * E) (h3 : 9007199254740992 * QE ≤ QY + QM ∧ -(QY + QM) ≤ 9007199254740992 * QE)
  (h4 : QY ≤ 1267650600228229401496703205376 * YA) (h5 : 4503599627370496 * YA ≤ X) (h6 : 72057594037927936 * m ≤ QM) (h0 : 0 ≤ m) (hX : 0 ≤ X) : X + Y + m + E ≤ QM + QE := by omega
theorem lin2 {X Y m E QM QE YA QY : Int} (h1 : 14 * X ≤ 10 * QM) (h1' : 10 * QM ≤ 16 * X) (hY : -YA ≤ Y ∧ Y ≤ YA) (h2 : 9007199254740992 * E ≤ YA + m ∧ -(YA + m) ≤ 9007199254740992 * E) (h3 : 9007199254740992 * QE ≤ QY + QM ∧ -(QY + QM) ≤ 9007199254740992 * QE)
  (h4 : QY ≤ 1267650600228229401496703205376 * YA) (h5 : 4503599627370496 * YA ≤ X) (h6 : 72057594037927936 * m ≤ QM) (h0 : 0 ≤ m) (hX : 0 ≤ X) : QM + QE ≤ 2 * (X + Y) := by omega
theorem lin3 {X Y m F QM QF YA QY : Int} (h1 : 14 * X ≤ 10 * QM) (h1' : 10 * QM ≤ 16 * X) (hY : -YA ≤ Y ∧ Y ≤ YA) (h2 : 9007199254740992 * F ≤ YA + m ∧ -(YA + m) ≤ 9007199254740992 * F) (h3 : 9007199254740992 * QF ≤ QY + QM ∧ -(QY + QM) ≤ 9007199254740992 * QF)
  (h4 : QY ≤ 1267650600228229401496703205376 * YA) (h5 : 4503599627370496 * YA ≤ X) (h6 : 72057594037927936 * m ≤ QM) (h0 : 0 ≤ m) (hX : 0 ≤ X) : X + Y + F ≤ QM - QF + m := by omega
theorem ends {q : Nat} {X Y m A B V Q : Int} (hq1 : 56 ≤ q) (hq2 : q ≤ 100) (hQ : Q = 2^q) (hX : 0 ≤ X) (hY : 2^52 * Y.natAbs ≤ X.natAbs) (h0 : 0 ≤ m) (h1 : 14 * X ≤ 10 * (Q * m)) (h1' : 10 * (Q * m) ≤ 16 * X)
  (hA : A = rnI 0 (Y + m)) (hB : B = rnI 0 (Y - m)) (hV : V = X + Y) :
  V * Q ≤ (X + A) * (Q - 1) ∧ (X + B) * (Q + 1) ≤ V * Q ∧ (X + A) * Q ≤ V * (Q + 2) ∧ V * (Q - 2) ≤ (X + B) * Q := by
 have q1 : (2:Int)^56 ≤ Q := by rw [hQ]; exact pow_le_of hq1
 have q2 : Q ≤ (2:Int)^100 := by rw [hQ]; exact pow_le_of hq2
 have eA := err53 (Y + m)
 have eB := err53 (Y - m)
 rw [← hA] at eA
 rw [← hB] at eB
 clear hA hB hQ
 have Q0 : 0 ≤ Q := by omega
 have c6 := Int.mul_le_mul_of_nonneg_right q1 h0
 have c4 := Int.mul_le_mul_of_nonneg_right q2 (show (0:Int) ≤ (Y.natAbs : Int) by omega)
 obtain ⟨E, hE⟩ : ∃ E, E = A - (Y + m) := ⟨_, rfl⟩
 obtain ⟨F, hF⟩ : ∃ F, F = B - (Y - m) := ⟨_, rfl⟩
 rw [← hE] at eA
 rw [← hF] at eB
 have sA1 : 9007199254740992 * E ≤ (Y.natAbs : Int) + m := by omega
 have sA2 : -((Y.natAbs : Int) + m) ≤ 9007199254740992 * E := by omega
 have sB1 : 9007199254740992 * F ≤ (Y.natAbs : Int) + m := by omega
 have sB2 : -((Y.natAbs : Int) + m) ≤ 9007199254740992 * F := by omega
 have t : ∀ z u : Int, 9007199254740992 * z ≤ u → 9007199254740992 * (Q * z) ≤ Q * u := fun z u h => by
  have h2 := Int.mul_le_mul_of_nonneg_left h Q0
  have e : Q * (9007199254740992 * z) = 9007199254740992 * (Q * z) := by rw [← Int.mul_assoc, Int.mul_comm Q, Int.mul_assoc]
  rw [e] at h2; exact h2
 have t' : ∀ z u : Int, -u ≤ 9007199254740992 * z → -(Q * u) ≤ 9007199254740992 * (Q * z) := fun z u h => by
  have h2 := Int.mul_le_mul_of_nonneg_left h Q0
  have e : Q * (9007199254740992 * z) = 9007199254740992 * (Q * z) := by rw [← Int.mul_assoc, Int.mul_comm Q, Int.mul_assoc]
  rw [e, Int.mul_neg] at h2; exact h2
 have a1 := t _ _ sA1
 have a2 := t' _ _ sA2
 have b1 := t _ _ sB1
 have b2 := t' _ _ sB2
 rw [Int.mul_add] at a1 a2 b1 b2
 have hYA : -(Y.natAbs : Int) ≤ Y ∧ Y ≤ (Y.natAbs : Int) := by omega
 have h5 : 4503599627370496 * (Y.natAbs : Int) ≤ X := by omega
 have k6 : 72057594037927936 * m ≤ Q * m := c6
 have k4 : Q * (Y.natAbs : Int) ≤ 1267650600228229401496703205376 * (Y.natAbs : Int) := c4
 have l1 := lin1 h1 h1' hYA ⟨sA1, sA2⟩ ⟨a1, a2⟩ k4 h5 k6 h0 hX
 have l2 := lin1 (E := -F) (QE := -(Q * F)) h1 h1' hYA ⟨by omega, by omega⟩ ⟨by omega, by omega⟩ k4 h5 k6 h0 hX
 have l3 := lin2 h1 h1' hYA ⟨sA1, sA2⟩ ⟨a1, a2⟩ k4 h5 k6 h0 hX
 have l4 := lin2 (E := -F) (QE := -(Q * F)) h1 h1' hYA ⟨by omega, by omega⟩ ⟨by omega, by omega⟩ k4 h5 k6 h0 hX
 have l5 := lin3 h1 h1' hYA ⟨sB1, sB2⟩ ⟨b1, b2⟩ k4 h5 k6 h0 hX
 clear a1 a2 b1 b2 sA1 sA2 sB1 sB2 t t' c4 c6 eA eB k4 k6 h1 h1'
 have xA : X + A = V + (m + E) := by omega
 have xB : X + B = V - (m - F) := by omega
 rw [xA, xB]
 have d1 : (V + (m + E)) * (Q - 1) = V * Q - V + (Q * m + Q * E) - (m + E) := by
  rw [Int.add_mul, Int.mul_sub, Int.mul_sub, Int.mul_one, Int.mul_one, Int.mul_comm (m + E) Q, Int.mul_add]; omega
 have d2 : (V - (m - F)) * (Q + 1) = V * Q + V - (Q * m - Q * F) - (m - F) := by
  rw [Int.sub_mul, Int.mul_add, Int.mul_add, Int.mul_one, Int.mul_one, Int.mul_comm (m - F) Q, Int.mul_sub]; omega
 have d3 : (V + (m + E)) * Q = V * Q + (Q * m + Q * E) := by rw [Int.add_mul, Int.mul_comm (m + E) Q, Int.mul_add]
 have d4 : (V - (m - F)) * Q = V * Q - (Q * m - Q * F) := by rw [Int.sub_mul, Int.mul_comm (m - F) Q, Int.mul_sub]
 rw [d1, d2, d3, d4, Int.mul_add, Int.mul_sub]
 exact ⟨by omega, by omega, by omega, by omega⟩
theorem high_pos {s : Nat} : 0 ≤ ((high s : Nat) : Int) ∧ 0 ≤ ((low s : Nat) : Int) := ⟨by omega, by omega⟩
theorem inz_low {N s : Nat} (h : InZ N s) : (low s : Int) ≤ 2 * (N : Int) ∧ 2 * (N : Int) ≤ (high s : Int) ∧ (s % 2 ≠ 0 → (low s : Int) < 2 * (N : Int) ∧ 2 * (N : Int) < (high s : Int)) := by
 unfold InZ at h
 unfold low high
 split at h
 ·exact ⟨by omega, by omega, fun h' => absurd (by assumption) h'⟩
 ·exact ⟨by omega, by omega, fun _ => ⟨by omega, by omega⟩⟩
theorem inb {s : Nat} {N1 N2 VQ Q b : Int} (z1 : InZ N1.natAbs s) (z2 : InZ N2.natAbs s) (p1 : 0 ≤ N1) (p2 : 0 ≤ N2) (hQ : 2 ≤ Q) (e1 : VQ ≤ N1 * (Q - 1)) (e2 : N2 * (Q + 1) ≤ VQ) (hb1 : Q - 1 ≤ b) (hb2 : b ≤ Q + 1) :
  if s % 2 = 0 then (low s : Int) * b ≤ 2 * VQ ∧ 2 * VQ ≤ (high s : Int) * b else (low s : Int) * b < 2 * VQ ∧ 2 * VQ < (high s : Int) * b := by
 obtain ⟨a1, a2, a3⟩ := inz_low z1
 obtain ⟨b1, b2, b3⟩ := inz_low z2
 have n1 : ((N1.natAbs : Nat) : Int) = N1 := by omega
 have n2 : ((N2.natAbs : Nat) : Int) = N2 := by omega
 rw [n1] at a1 a2 a3
 rw [n2] at b1 b2 b3
 obtain ⟨hp, lp⟩ := high_pos (s := s)
 have h1 := Int.mul_le_mul_of_nonneg_left hb1 hp
 have h2 := Int.mul_le_mul_of_nonneg_left hb2 lp
 have h3 := Int.mul_le_mul_of_nonneg_right a2 (show (0:Int) ≤ Q - 1 by omega)
 have h4 := Int.mul_le_mul_of_nonneg_right b1 (show (0:Int) ≤ Q + 1 by omega)
 rw [Int.mul_assoc] at h3 h4
 split
 ·exact ⟨by omega, by omega⟩
 ·rename_i hc
  have k1 := Int.mul_lt_mul_of_pos_right (a3 hc).2 (show (0:Int) < Q - 1 by omega)
  have k2 := Int.mul_lt_mul_of_pos_right (b3 hc).1 (show (0:Int) < Q + 1 by omega)
  rw [Int.mul_assoc] at k1 k2
  exact ⟨by omega, by omega⟩
theorem sz_big {x : Nat} (h : U x ≠ 0) : sz x ≠ 0 := by
 intro e
 have := U_natAbs x
 rw [e] at this
 have : mg 0 = 0 := rfl
 omega
theorem ng_of {r : Nat} (h : 0 < U r) : ng r = false := by
 unfold U at h
 split at h
 ·omega
 ·rename_i hc; simpa using hc
theorem ng_of' {r : Nat} (h : U r < 0) : ng r = true := by
 unfold U at h
 split at h
 ·rename_i hc; exact hc
 ·omega
theorem rn_pos {X t : Int} (hF : isF 0 X) (hX : 0 < X) (ht : 4 * t.natAbs ≤ X.natAbs) : 0 < rnI 0 (X + t) := by
 have n := rnI_near hF (v := X + t)
 omega
theorem core {q X0 : Nat} {Y m R V : Int} {s : Nat} (hq1 : 56 ≤ q) (hq2 : q ≤ 100) (hX0 : 2^120 ≤ X0) (hY : 2^52 * Y.natAbs ≤ X0) (h0 : 0 ≤ m) (h1 : 14 * (X0 : Int) ≤ 10 * (2^q * m)) (h1' : 10 * (2^q * m) ≤ 16 * X0)
  (hs : s ≠ 0) (hA : rnI 0 ((X0 : Int) + rnI 0 (Y + m)) = R) (hB : rnI 0 ((X0 : Int) + rnI 0 (Y - m)) = R) (hR : mg s = R.natAbs) (hV : V = X0 + Y) :
  0 < V ∧ ∀ b, 2^q - 1 ≤ b → b ≤ 2^q + 1 → (if s % 2 = 0 then (low s : Int) * b ≤ 2 * (V * 2^q) ∧ 2 * (V * 2^q) ≤ (high s : Int) * b else (low s : Int) * b < 2 * (V * 2^q) ∧ 2 * (V * 2^q) < (high s : Int) * b) := by
 obtain ⟨e1, e2, _, _⟩ := ends (X := (X0 : Int)) (Y := Y) (m := m) (V := V) hq1 hq2 rfl (by omega) (by rw [Int.natAbs_natCast]; exact hY) h0 h1 h1' rfl rfl hV
 have q1 : (2:Int)^56 ≤ 2^q := pow_le_of hq1
 have rA : rung 0 ((X0 : Int) + rnI 0 (Y + m)).natAbs = s := by
  have h := mg_rung 0 ((X0 : Int) + rnI 0 (Y + m)).natAbs
  rw [Nat.pow_zero, Nat.mul_one, ← rnI_natAbs, hA, ← hR] at h
  exact mg_inj h
 have rB : rung 0 ((X0 : Int) + rnI 0 (Y - m)).natAbs = s := by
  have h := mg_rung 0 ((X0 : Int) + rnI 0 (Y - m)).natAbs
  rw [Nat.pow_zero, Nat.mul_one, ← rnI_natAbs, hB, ← hR] at h
  exact mg_inj h
 have hmq : 72057594037927936 * m ≤ 2^q * m := Int.mul_le_mul_of_nonneg_right q1 h0
 have t1 := rn_twice (Y + m)
 have t2 := rn_twice (Y - m)
 refine ⟨by omega, fun b hb1 hb2 => ?_⟩
 exact inb (inz_of hs rA) (inz_of hs rB) (by omega) (by omega) (by omega) e1 e2 hb1 hb2
theorem fin_sz {r : Nat} {X : Nat} {v : Int} (hr : U r = rnI 0 v) (hX : X ≤ 2^50 * T0) (hv : v.natAbs ≤ 2 * X) : sz r + 1 < INF := by
 have hb : v.natAbs ≤ 2^51 * T0 := by omega
 have hl := rn_le_T hb (by decide)
 rw [← hr, U_natAbs] at hl
 obtain ⟨k, hk⟩ : ∃ k, TE = k + 1 := ⟨TE - 1, by have := TE_eq; omega⟩
 have h2 := mg_top k
 have h3 : T0 = 2 * 2^k := by unfold T0; rw [hk, Nat.pow_succ]; omega
 have h4 : mg (sz r) ≤ mg ((k + 1) * 2^52) := by rw [h2]; omega
 have h5 := mg_le_iff.1 h4
 rw [← hk, TE_eq] at h5
 have hI : INF = 2047 * 2^52 := rfl
 omega
theorem inc_of {V Q b : Int} {a : Int} {r s : Nat} (hs : s = sz r) (h0 : s ≠ 0) (hf : s + 1 < INF) (hz : zn a = ng r) (ha : (a.natAbs : Int) = V * Q)
  (h : if s % 2 = 0 then (low s : Int) * b ≤ 2 * (V * Q) ∧ 2 * (V * Q) ≤ (high s : Int) * b else (low s : Int) * b < 2 * (V * Q) ∧ 2 * (V * Q) < (high s : Int) * b) : InC a b r := by
 subst hs
 unfold InC
 rw [ha]
 exact ⟨hz, h0, hf, h⟩
theorem sound_law {x y r n : Nat} {i : Int} (h : AcceptR x y i r true) (hn : (n : Int) = -i) : InC ((U x + U y) * 2^n) (((2^n : Nat) : Int) + 1) r ∧ InC ((U x + U y) * 2^n) (((2^n : Nat) : Int) - 1) r := by
 obtain ⟨hr0, hrlt, _⟩ := sure_vals h
 obtain ⟨c1, c2, h1, h2, hf, d, hw, ho⟩ := h.fit
 obtain ⟨fx, fy, hs⟩ := form_law hf h2
 have hsm := small_of hs
 have hbig := big900 h1
 obtain ⟨_, bx⟩ := atMost_995 (a := x) (by omega)
 obtain ⟨g, hg⟩ : ∃ g, g = 1074 := ⟨_, rfl⟩
 obtain ⟨n', m, hn', hm, vm, fu, fd, hlt, vu, vd⟩ := way_vals hg c1 c2 h1 h2 fy (by omega) hw
 have hud : U r = U d := by
  have e := (ne_fin fu fd).symm.trans ho
  have := of_decide_eq_false e
  omega
 have ux : U (sz x) = (((U x).natAbs : Nat) : Int) := by
  rw [U_natAbs, U_pos (show sz x < 2^63 from Nat.mod_lt _ (by decide))]
 rw [ux] at vm
 obtain ⟨m0, m1, m2⟩ := margin_q (g := g) (n := n') (x := (U x).natAbs) (q := n) (m := m) (by omega) (by omega) hbig vm
 have e2n : ((2^n : Nat) : Int) = (2:Int)^n := Int.natCast_pow 2 n
 have hQ0 := ipw n
 have hmb : 4 * m.natAbs ≤ (U x).natAbs := by omega
 have t1 := rn_twice (U y + m)
 have t2 := rn_twice (U y - m)
 have hszr := sz_big hr0
 have hfin : sz r + 1 < INF := fin_sz (X := (U x).natAbs) vu (by have := T0_pos; omega) (by omega)
 rw [e2n]
 rcases Int.lt_trichotomy (U x) 0 with hx | hx | hx
 ·have e0 : (((U x).natAbs : Nat) : Int) = -U x := by omega
  have a1 : -U y + m = -(U y - m) := by omega
  have a2 : -U y - m = -(U y + m) := by omega
  obtain ⟨hV, hall⟩ := core (X0 := (U x).natAbs) (Y := -U y) (R := -U r) (V := -(U x + U y)) (s := sz r) (by omega) (by omega) hbig (by rw [Int.natAbs_neg]; omega) m0 m1 m2 hszr
   (by rw [e0, a1, rnI_neg, ← Int.neg_add, rnI_neg, ← vd, hud]) (by rw [e0, a2, rnI_neg, ← Int.neg_add, rnI_neg, ← vu]) (by rw [Int.natAbs_neg, U_natAbs]) (by omega)
  have hneg : U r < 0 := by
   have hp := rn_pos (X := -U x) (t := -(rnI 0 (U y + m))) (isF_neg (U_isF x)) (by omega) (by rw [Int.natAbs_neg, Int.natAbs_neg]; omega)
   rw [← Int.neg_add, rnI_neg, ← vu] at hp
   omega
  have hz : zn ((U x + U y) * 2^n) = ng r := by
   rw [ng_of' hneg]
   unfold zn
   rw [decide_eq_true (Int.mul_neg_of_neg_of_pos (by omega) hQ0)]
  have hab : ((((U x + U y) * 2^n).natAbs : Nat) : Int) = -(U x + U y) * 2^n := by
   have := Int.mul_pos hV hQ0
   rw [Int.neg_mul] at this ⊢
   omega
  exact ⟨inc_of rfl hszr hfin hz hab (hall _ (by omega) (by omega)), inc_of rfl hszr hfin hz hab (hall _ (by omega) (by omega))⟩
 ·omega
 ·have e0 : (((U x).natAbs : Nat) : Int) = U x := by omega
  obtain ⟨hV, hall⟩ := core (X0 := (U x).natAbs) (Y := U y) (R := U r) (V := U x + U y) (s := sz r) (by omega) (by omega) hbig (by omega) m0 m1 m2 hszr
   (by rw [e0, ← vu]) (by rw [e0, ← vd, hud]) (by rw [U_natAbs]) (by omega)
  have hpos : 0 < U r := by
   have hp := rn_pos (X := U x) (t := rnI 0 (U y + m)) (U_isF x) (by omega) (by omega)
   rw [← vu] at hp
   exact hp
  have hz : zn ((U x + U y) * 2^n) = ng r := by
   rw [ng_of hpos]
   unfold zn
   have := Int.mul_pos hV hQ0
   rw [decide_eq_false (by omega)]
  have hab : ((((U x + U y) * 2^n).natAbs : Nat) : Int) = (U x + U y) * 2^n := by
   have := Int.mul_pos hV hQ0
   omega
  exact ⟨inc_of rfl hszr hfin hz hab (hall _ (by omega) (by omega)), inc_of rfl hszr hfin hz hab (hall _ (by omega) (by omega))⟩
end Go.Proofs.YtelfmddcjlocpaaDoor.SoundLaw
