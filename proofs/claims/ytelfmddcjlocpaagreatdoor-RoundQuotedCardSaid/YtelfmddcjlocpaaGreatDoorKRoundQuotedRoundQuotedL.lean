/- A product by one of its factors is the other one, rounded; a quotient lies between its cuts, rounded; the order of two signs does not matter: the plain law. Plain Lean over the functions. Condition: lists of words. -/
import Derived.Test.YtelfmddcjlocpaaGreatDoorKRoundQuotedRoundRootedL
import Derived.Test.YtelfmddcjlocpaaGreatDoorKRoundQuotedPxY1
import Derived.Test.YtelfmddcjlocpaaGreatDoorKRoundQuotedPRefx0
import Derived.Test.YtelfmddcjlocpaaGreatDoorKRoundQuotedPxY0
import Derived.Test.YtelfmddcjlocpaaGreatDoorKRoundQuotedPxL1
import Derived.Test.YtelfmddcjlocpaaGreatDoorKRoundQuotedPxL0
import Derived.Test.YtelfmddcjlocpaaGreatDoorKRoundQuotedPxV0
set_option linter.unusedVariables false
namespace Go.Proofs.YtelfmddcjlocpaaGreatDoor.RoundQuotedL
open Go.RowKit Go.Proofs.YtelfmddcjlocpaaGreatDoorW.PrintWords Go.Proofs.YtelfmddcjlocpaaGreatDoorW.PrintMore Go.Proofs.YtelfmddcjlocpaaGreatDoor.Num Go.Proofs.YtelfmddcjlocpaaGreatDoor.PLib Go.Proofs.YtelfmddcjlocpaaGreatDoor.PRef Go.Proofs.YtelfmddcjlocpaaGreatDoor.Ref Go.Proofs.YtelfmddcjlocpaaGreatDoor.GTh Go.Proofs.YtelfmddcjlocpaaGreatDoor.Given Go.Proofs.YtelfmddcjlocpaaGreatDoor.Rp1 Go.Proofs.YtelfmddcjlocpaaGreatDoor.Rp2 Go.Proofs.YtelfmddcjlocpaaGreatDoor.Rp3 Go.Proofs.YtelfmddcjlocpaaGreatDoor.Rp4 Go.Proofs.YtelfmddcjlocpaaGreatDoor.Rp5 Go.Proofs.YtelfmddcjlocpaaGreatDoor.Rp7 Go.Proofs.YtelfmddcjlocpaaGreatDoor.BinLaw Go.Proofs.YtelfmddcjlocpaaGreatDoor.Fm8 Go.Proofs.YtelfmddcjlocpaaGreatDoor.Rnd Go.Proofs.YtelfmddcjlocpaaGreatDoor.Sq Go.Proofs.YtelfmddcjlocpaaGreatDoor.Sz Go.Proofs.YtelfmddcjlocpaaGreatDoor.SzR Go.Proofs.YtelfmddcjlocpaaGreatDoor.RnL Go.Proofs.YtelfmddcjlocpaaGreatDoor.RnN Go.Proofs.YtelfmddcjlocpaaGreatDoor.RnQ Go.Proofs.YtelfmddcjlocpaaGreatDoor.RnC Go.Proofs.YtelfmddcjlocpaaGreatDoor.RoundRootedL
theorem xor_pow (k b : Nat) (hb : b < 2 * 2^k) : b ^^^ 2^k = if 2^k ≤ b then b - 2^k else b + 2^k := by
 have h1 : (b ^^^ 2^k) % 2^k = b % 2^k := by rw [Nat.xor_mod_two_pow, Nat.mod_self, Nat.xor_zero]
 have h2 : (b ^^^ 2^k) / 2^k = b / 2^k ^^^ 1 := by rw [Nat.xor_div_two_pow, Nat.div_self (Nat.two_pow_pos k)]
 have h3 := Nat.div_add_mod (b ^^^ 2^k) (2^k)
 have h4 := Nat.div_add_mod b (2^k)
 rw [h1, h2] at h3
 by_cases q : 2^k ≤ b
 ·have c : b / 2^k = 1 := by
   have a1 : 1 ≤ b / 2^k := Nat.div_pos q (Nat.two_pow_pos k)
   have a2 : b / 2^k < 2 := Nat.div_lt_of_lt_mul (by omega)
   omega
  rw [if_pos q, ← h3, c]
  rw [c] at h4
  have e : (1 ^^^ 1 : Nat) = 0 := by decide
  rw [e]; omega
 ·have c : b / 2^k = 0 := Nat.div_eq_of_lt (by omega)
  rw [if_neg q, ← h3, c]
  rw [c] at h4
  have e : (0 ^^^ 1 : Nat) = 1 := by decide
  rw [e]; omega
theorem xor_pat {f : Int} {F : Fmt} (h : Fm f F) (neg : Bool) {s : Nat} (hs : s < F.sg) : Go.bits .xor .u64 ((pat F neg s : Nat) : Int) ((F.sg : Nat) : Int) = ((pat F (!neg) s : Nat) : Int) := by
 have hz := h.sz
 have hlt := pat_lt F neg hs
 have key : pat F neg s ^^^ F.sg = pat F (!neg) s := by
  have x : pat F neg s ^^^ F.sg = if F.sg ≤ pat F neg s then pat F neg s - F.sg else pat F neg s + F.sg := by
   rcases h with ⟨_, rfl⟩ | ⟨_, rfl⟩
   ·have e : fS.sg = 2^31 := by decide
    rw [e] at hlt ⊢
    exact xor_pow 31 _ hlt
   ·have e : fD.sg = 2^63 := by decide
    rw [e] at hlt ⊢
    exact xor_pow 63 _ hlt
  rw [x]
  have g := pat_ge F neg hs
  cases neg
  ·rw [if_neg (of_decide_eq_false g)]; unfold pat; simp [Nat.add_comm]
  ·rw [if_pos (of_decide_eq_true g)]; unfold pat; simp
 rw [u64_xor_nat (pat F neg s) F.sg (by omega) (by omega), key]
theorem lawSign_f {f : Int} {F : Fmt} (h : Fm f F) : gnomonlaw08_sign.f f = some ((F.sg : Nat) : Int) := by
 rcases h with ⟨rfl, rfl⟩ | ⟨rfl, rfl⟩ <;> decide +kernel
theorem doc_quo {f : Int} {F : Fmt} (h : Fm f F) {n n' : Bool} {m m' : Nat} {x x' E : Int} (hd : Dk n m x) (hd' : Dk n' m' x') (m0 : m ≠ 0) (m0' : m' ≠ 0) (la : nl m ≤ 4096) (la' : nl m' ≤ 4096) (e1 : E ≤ x - x') (e2 : -2500000 ≤ E) (e3 : E ≤ F.low - 1) :
  ∃ r : Nat, r ≤ F.inf ∧ Nq F (qn m (x - x') E) (qd F m' E) r ∧ Ev (fun k => gnomonref08_DocQuotient.f k f n (lb m) x n' (lb m') x') (((pat F (n != n') r : Nat) : Int), 0) := by
 obtain ⟨G, oF⟩ := rn_of h
 have ck := check_ok h (dyB_lb hd) (dyB_lb hd')
 have k1 := hd.low
 have k2 := hd.high
 have k3 := hd'.low
 have k4 := hd'.high
 have ba := bl_le_limbs m
 have bb := bl_le_limbs m'
 obtain ⟨r, nq, r2⟩ := Sz.size_ev h (A := m) (B := m') (e := x - x') (E := E) ⟨m0, m0', by omega, by omega, e1, by omega, e2, e3⟩ G ((F.qt : Nat) : Int)
 have rl := nq.le
 have w : wrap64 (x - x') = x - x' := w64 (by omega) (by omega)
 have nb0 : ¬ decide (m' = 0) = true := by simpa using m0'
 have na0 : ¬ decide (m = 0) = true := by simpa using m0
 have l1 : ¬ decide (nl m > 4096) = true := by simpa using la
 have l2 : ¬ decide (nl m' > 4096) = true := by simpa using la'
 refine ⟨r, rl, nq, ?_⟩
 unfold gnomonref08_DocQuotient.f
 refine Ev.bind ck (Ev.congr (fun k => if_pos rfl) (Ev.bind (rn_ev (nought_lb _ _ _)) (Ev.congr (fun k => if_neg nb0) (Ev.bind (rn_ev (docLong_f _ _ _)) (Ev.congr (fun k => if_neg l1) (Ev.bind (rn_ev (docLong_f _ _ _)) (Ev.congr (fun k => if_neg l2) (Ev.bind (rn_ev (nought_lb _ _ _)) (Ev.congr (fun k => if_neg na0) (Ev.bind (rn_ev oF) ?_))))))))))
 rw [w]
 exact Ev.bind (from_ev m hd.lim) (Ev.bind (from_ev m' hd'.lim) (Ev.bind r2 (Ev.bind (rn_ev (rn_signed h (n != n') rl _ _ _ _ _)) (Ev.now _))))
theorem quo_val {f : Int} {F : Fmt} (h : Fm f F) {n n' : Bool} {m m' : Nat} {x x' E : Int} (hd : Dk n m x) (hd' : Dk n' m' x') (m0 : m ≠ 0) (m0' : m' ≠ 0) (la : nl m ≤ 4096) (la' : nl m' ≤ 4096) (e1 : E ≤ x - x') (e2 : -2500000 ≤ E) (e3 : E ≤ F.low - 1) :
  ∃ r : Nat, r ≤ F.inf ∧ Nq F (qn m (x - x') E) (qd F m' E) r ∧ Ev (fun k => round_Quotient.f k f n (lb m) x n' (lb m') x') (((pat F (n != n') r : Nat) : Int), 0) := by
 obtain ⟨r, rl, nq, d⟩ := doc_quo h hd hd' m0 m0' la la' e1 e2 e3
 obtain ⟨v, e, p, q⟩ := rn_quotient f n n' (lb m) (lb m') (wf_lb m) (wf_lb m') x x'
 rw [ev_uniq q d] at p
 exact ⟨r, rl, nq, p⟩
theorem quo_zero {f : Int} {F : Fmt} (h : Fm f F) {n n' : Bool} {m m' : Nat} {x x' : Int} (hd : Dk n m x) (hd' : Dk n' m' x') (m0 : m = 0) (m0' : m' ≠ 0) (la : nl m ≤ 4096) (la' : nl m' ≤ 4096) : Ev (fun k => round_Quotient.f k f n (lb m) x n' (lb m') x') (0, 0) := by
 have ck := check_ok h (dyB_lb hd) (dyB_lb hd')
 have nb0 : ¬ decide (m' = 0) = true := by simpa using m0'
 have l1 : ¬ decide (nl m > 4096) = true := by simpa using la
 have l2 : ¬ decide (nl m' > 4096) = true := by simpa using la'
 have d : Ev (fun k => gnomonref08_DocQuotient.f k f n (lb m) x n' (lb m') x') (0, 0) := by
  unfold gnomonref08_DocQuotient.f
  exact Ev.bind ck (Ev.congr (fun k => if_pos rfl) (Ev.bind (rn_ev (nought_lb _ _ _)) (Ev.congr (fun k => if_neg nb0) (Ev.bind (rn_ev (docLong_f _ _ _)) (Ev.congr (fun k => if_neg l1) (Ev.bind (rn_ev (docLong_f _ _ _)) (Ev.congr (fun k => if_neg l2) (Ev.bind (rn_ev (nought_lb _ _ _)) (Ev.congr (fun k => if_pos (decide_eq_true m0)) (Ev.now _))))))))))
 obtain ⟨v, e, p, q⟩ := rn_quotient f n n' (lb m) (lb m') (wf_lb m) (wf_lb m') x x'
 rwa [ev_uniq q d] at p
theorem quo_by0 {f : Int} {F : Fmt} (h : Fm f F) {n n' : Bool} {m m' : Nat} {x x' : Int} (hd : Dk n m x) (hd' : Dk n' m' x') (m0' : m' = 0) : Ev (fun k => round_Quotient.f k f n (lb m) x n' (lb m') x') (0, 4) := by
 have ck := check_ok h (dyB_lb hd) (dyB_lb hd')
 have d : Ev (fun k => gnomonref08_DocQuotient.f k f n (lb m) x n' (lb m') x') (0, 4) := by
  unfold gnomonref08_DocQuotient.f
  exact Ev.bind ck (Ev.congr (fun k => if_pos rfl) (Ev.bind (rn_ev (nought_lb _ _ _)) (Ev.congr (fun k => if_pos (decide_eq_true m0')) (Ev.now _))))
 obtain ⟨v, e, p, q⟩ := rn_quotient f n n' (lb m) (lb m') (wf_lb m) (wf_lb m') x x'
 rwa [ev_uniq q d] at p
def bump (up neg : Bool) : Bool := up != neg
theorem made_any (w : Int) (up neg some_ : Bool) (hw : (w = 0 ∧ up = false) ∨ (w = 1 ∧ up = true)) {q : Nat} (half : Int) (h : nl q ≤ 8192) (hr : nl (q + 1) ≤ 8192) {r : Nat} (e : r = q + if bump up neg = true ∧ some_ = true then 1 else 0) :
  Ev (fun k => num_way_made.f k w neg (lb q) some_ half) (neg && decide (r ≠ 0), lb r, 0) := by
 unfold num_way_made.f
 refine Ev.bind (Rp2.bit_ev h (n := 0) (by decide)) ?_
 have em : num_way_more.f w neg (bitI q 0) some_ half = some (decide (bump up neg = true ∧ some_ = true)) := by
  unfold num_way_more.f
  rcases hw with ⟨rfl, rfl⟩ | ⟨rfl, rfl⟩
  ·rw [if_pos rfl]; cases neg <;> cases some_ <;> rfl
  ·rw [if_neg (by decide), if_pos rfl]; cases neg <;> cases some_ <;> rfl
 rw [em]
 simp only [Option.bind_some]
 by_cases c : bump up neg = true ∧ some_ = true
 ·rw [if_pos c] at e
  refine Ev.congr (fun k => if_pos (decide_eq_true c)) ?_
  have w1 : nat_Word.f 1 = some (lb 1) := word_f 1 (by decide)
  rw [w1]
  simp only [Option.bind_some]
  rw [add_f h (by decide) hr, ← e]
  simp only [Option.bind_some]
  rw [told_f]
  exact Ev.now _
 ·rw [if_neg c] at e
  refine Ev.congr (fun k => if_neg (by simpa using c)) ?_
  rw [told_f, e]
  exact Ev.now _
def cutm (up neg : Bool) (m n : Nat) : Nat := m / 2^n + if bump up neg = true ∧ decide (((tz m : Nat) : Int) < (n : Int)) = true then 1 else 0
theorem way_ev (w : Int) (up : Bool) (hw : (w = 0 ∧ up = false) ∨ (w = 1 ∧ up = true)) {neg : Bool} {m n : Nat} (h : nl m ≤ 8192) (m0 : m ≠ 0) (hq1 : nl (m / 2^n + 1) ≤ 8192) (hn : n < 4611686018427387904) :
  Ev (fun k => num_way_shr.f k w neg (lb m) (n : Int)) (neg && decide (cutm up neg m n ≠ 0), lb (cutm up neg m n), 0) := by
 unfold num_way_shr.f
 have hq : nl (m / 2^n) ≤ 8192 := Nat.le_trans (nl_mono (Nat.div_le_self _ _)) h
 have p := nl_pos m0
 refine Ev.congr (fun k => if_neg (by omega)) ?_
 rw [numForm_lb h (fun e => absurd e m0), shr_f h (by omega)]
 simp only [Option.bind_some, if_true]
 rw [lb_len]
 refine Ev.congr (fun k => if_pos (by omega)) ?_
 rw [trail_f h m0]
 simp only [Option.bind_some]
 have mk := fun half => made_any w up neg (decide (((tz m : Nat) : Int) < (n : Int))) hw half hq hq1 (r := cutm up neg m n) rfl
 have ew : wrap64 ((n : Int) - 1) = (n : Int) - 1 := w64 (by omega) (by omega)
 refine Ev.step (f := fun k => (nat_Bit.f k (lb m) (wrap64 ((n : Int) - 1))).bind fun t370 => (if t370 = true then ((nat_Trail.f (lb m)).bind fun t371 => (if t371 = (wrap64 ((n : Int) - 1)) then ((num_way_made.f k w neg (lb (m / 2^n)) (decide (((tz m : Nat) : Int) < (n : Int))) 0).bind fun bt372 => (some (bt372.1, bt372.2.1, bt372.2.2))) else ((num_way_made.f k w neg (lb (m / 2^n)) (decide (((tz m : Nat) : Int) < (n : Int))) 1).bind fun bt377 => (some (bt377.1, bt377.2.1, bt377.2.2))))) else ((num_way_made.f k w neg (lb (m / 2^n)) (decide (((tz m : Nat) : Int) < (n : Int))) (-1)).bind fun bt382 => (some (bt382.1, bt382.2.1, bt382.2.2))))) (fun k => rfl) ?_
 rw [ew]
 refine Ev.bind (Rp2.bit_ev h (n := (n : Int) - 1) (by omega)) ?_
 by_cases z : bitI m ((n : Int) - 1) = true
 ·refine Ev.congr (fun k => if_pos z) ?_
  rw [trail_f h m0]
  simp only [Option.bind_some]
  by_cases t : ((tz m : Nat) : Int) = (n : Int) - 1
  ·exact Ev.congr (fun k => if_pos t) (Ev.bind (mk 0) (Ev.now _))
  ·exact Ev.congr (fun k => if_neg t) (Ev.bind (mk 1) (Ev.now _))
 ·exact Ev.congr (fun k => if_neg z) (Ev.bind (mk (-1)) (Ev.now _))
theorem cut_ev (up : Bool) {neg : Bool} {m n : Nat} (h : nl m ≤ 8192) (m0 : m ≠ 0) (hq1 : nl (m / 2^n + 1) ≤ 8192) (hn : n < 4611686018427387904) :
  Ev (fun k => dyadic_cut.f k neg (lb m) (n : Int) up) (neg && decide (cutm up neg m n ≠ 0), lb (cutm up neg m n)) := by
 unfold dyadic_cut.f
 cases up
 ·refine Ev.congr (fun k => if_neg (by decide)) ?_
  unfold num_FloorShr.f
  exact Ev.bind (Ev.bind (way_ev 0 false (.inl ⟨rfl, rfl⟩) h m0 hq1 hn) (Ev.now _)) (Ev.now _)
 ·refine Ev.congr (fun k => if_pos rfl) ?_
  unfold num_CeilShr.f
  exact Ev.bind (Ev.bind (way_ev 1 true (.inr ⟨rfl, rfl⟩) h m0 hq1 hn) (Ev.now _)) (Ev.now _)
theorem cut_lo {X b nn : Nat} (hb : 0 < b) (h1 : 1 ≤ nn) : stk (X / b) (X % b) / 2^nn * 2^nn * b ≤ 2 * X := by
 have dm := Nat.div_add_mod X b
 obtain ⟨p, rfl⟩ : ∃ p, nn = p + 1 := ⟨nn - 1, by omega⟩
 have l1 := Nat.div_mul_le_self (stk (X / b) (X % b)) (2^(p + 1))
 have ev : ∃ y, stk (X / b) (X % b) / 2^(p + 1) * 2^(p + 1) = 2 * y := ⟨stk (X / b) (X % b) / 2^(p + 1) * 2^p, by rw [Nat.pow_succ]; ac_rfl⟩
 obtain ⟨y, hy⟩ := ev
 rw [hy] at l1 ⊢
 have l2 : y ≤ X / b := by unfold stk at l1; split at l1 <;> omega
 have l3 := Nat.mul_le_mul_left b l2
 have e : 2 * y * b = 2 * (b * y) := by ac_rfl
 rw [e]
 omega
theorem cut_hi {X b nn : Nat} (hb : 0 < b) (h1 : 1 ≤ nn) (q0 : stk (X / b) (X % b) ≠ 0) : 2 * X ≤ (stk (X / b) (X % b) / 2^nn + if decide (((tz (stk (X / b) (X % b)) : Nat) : Int) < (nn : Int)) = true then 1 else 0) * 2^nn * b := by
 have dm := Nat.div_add_mod X b
 have lt := Nat.mod_lt X hb
 obtain ⟨p, rfl⟩ : ∃ p, nn = p + 1 := ⟨nn - 1, by omega⟩
 obtain ⟨Q, hQ⟩ : ∃ Q, Q = stk (X / b) (X % b) := ⟨_, rfl⟩
 have hs : Q = 2 * (X / b) + if X % b = 0 then 0 else 1 := hQ
 rw [← hQ] at q0 ⊢
 obtain ⟨c, hc⟩ : ∃ c, c = Q / 2^(p + 1) + if decide (((tz Q : Nat) : Int) < ((p + 1 : Nat) : Int)) = true then 1 else 0 := ⟨_, rfl⟩
 rw [← hc]
 obtain ⟨y, hy⟩ : ∃ y, y = c * 2^p := ⟨_, rfl⟩
 have e2 : c * 2^(p + 1) = 2 * y := by rw [Nat.pow_succ, hy]; ac_rfl
 have l2 : Q ≤ 2 * y := by
  rw [← e2]
  by_cases z : tz Q < p + 1
  ·rw [if_pos (decide_eq_true (by omega))] at hc
   have d := Nat.div_add_mod Q (2^(p + 1))
   have d2 := Nat.mod_lt Q (Nat.two_pow_pos (p + 1))
   rw [hc, Nat.add_mul, Nat.one_mul, Nat.mul_comm (Q / 2^(p + 1))]
   omega
  ·rw [if_neg (by simp; omega), Nat.add_zero] at hc
   obtain ⟨w, hw⟩ := tz_spec q0
   have dv : 2^(p + 1) ∣ Q := by
    rw [hw]
    exact Nat.dvd_trans (Nat.pow_dvd_pow 2 (by omega)) (Nat.dvd_mul_right _ _)
   rw [hc, Nat.div_mul_cancel dv]
   exact Nat.le_refl _
 rw [e2]
 have e3 : 2 * y * b = 2 * (b * y) := by ac_rfl
 rw [e3]
 by_cases r0 : X % b = 0
 ·rw [if_pos r0] at hs
  have l3 := Nat.mul_le_mul_left b (show X / b ≤ y by omega)
  omega
 ·rw [if_neg r0] at hs
  have l3 := Nat.mul_le_mul_left b (show X / b + 1 ≤ y by omega)
  rw [Nat.mul_add, Nat.mul_one] at l3
  omega
theorem d_ints {ba bb s : Nat} {x x' : Int} (ha : ba ≤ 262144) (hb : bb ≤ 262144) (k1 : -1048576 ≤ x) (k2 : x ≤ 1048576) (k3 : -1048576 ≤ x') (k4 : x' ≤ 1048576) (hs : s = 72 + bb - ba) :
  mx 0 (wrap64 ((wrap64 ((wrap64 ((70 : Int) + 2)) + (bb : Int))) - (ba : Int))) = (s : Int) ∧ wrap64 ((wrap64 ((wrap64 (x - x')) - (s : Int))) - 1) = x - x' - (s : Int) - 1 := by
 have e1 : wrap64 ((70 : Int) + 2) = 72 := by rw [w64 (by omega) (by omega)]; rfl
 have e2 : wrap64 (72 + (bb : Int)) = 72 + (bb : Int) := by clear e1; exact w64 (by omega) (by omega)
 have e3 : wrap64 (72 + (bb : Int) - (ba : Int)) = 72 + (bb : Int) - (ba : Int) := by clear e1 e2; exact w64 (by omega) (by omega)
 have e4 : wrap64 (x - x') = x - x' := by clear e1 e2 e3; exact w64 (by omega) (by omega)
 have e5 : wrap64 (x - x' - (s : Int)) = x - x' - (s : Int) := by clear e1 e2 e3 e4; exact w64 (by omega) (by omega)
 have e6 : wrap64 (x - x' - (s : Int) - 1) = x - x' - (s : Int) - 1 := by clear e1 e2 e3 e4 e5; exact w64 (by omega) (by omega)
 refine ⟨?_, by rw [e4, e5, e6]⟩
 rw [e1, e2, e3]
 clear e1 e2 e3 e4 e5 e6
 unfold mx
 split <;> omega
theorem short_ev (up : Bool) {neg : Bool} {Q : Nat} {X : Int} (h : bl Q ≤ 60000) (h1 : 71 ≤ bl Q) (x1 : -100000 ≤ X) (x2 : X ≤ 100000) {R : Bool × List Int × Int × Int}
  (mk : Ev (fun k => dyadic_Make.f k (neg && decide (cutm up neg Q (bl Q - 70) ≠ 0)) (lb (cutm up neg Q (bl Q - 70))) (X + ((bl Q - 70 : Nat) : Int))) R) : Ev (fun k => dyadic_short.f k neg (lb Q) X 70 up) R := by
 have Q0 : Q ≠ 0 := by intro e; rw [e] at h1; exact absurd h1 (by decide)
 have lq : nl Q ≤ 8192 := nl_nat (by omega)
 have bq : bl (Q / 2^(bl Q - 70)) ≤ 70 := by
  refine bl_le_of_lt (Nat.div_lt_of_lt_mul ?_)
  rw [← Nat.pow_add]
  have := bl_lt Q
  rwa [show bl Q - 70 + 70 = bl Q by omega]
 have bq1 : bl (Q / 2^(bl Q - 70) + 1) ≤ 71 := bl_add bq (by decide)
 have w1 : wrap64 (((bl Q : Nat) : Int) - 70) = ((bl Q - 70 : Nat) : Int) := by rw [w64 (by omega) (by omega)]; omega
 have w2 : wrap64 (X + ((bl Q - 70 : Nat) : Int)) = X + ((bl Q - 70 : Nat) : Int) := by clear w1; exact w64 (by omega) (by omega)
 unfold dyadic_short.f
 refine Ev.bind (rn_ev (bits_f lq)) ?_
 rw [w1, w2]
 exact Ev.congr (fun k => if_neg (by omega)) (Ev.bind (cut_ev up lq Q0 (nl_nat (by omega)) (by omega)) (Ev.bind mk (Ev.now _)))
theorem same_neg (n n' : Bool) : (n = n' ∧ (n != n') = false) ∨ (n ≠ n' ∧ (n != n') = true) := by cases n <;> cases n' <;> simp
theorem quo_long {m m' s : Nat} (m0 : m ≠ 0) (m0' : m' ≠ 0) (hs : s = 72 + bl m' - bl m) : 71 ≤ bl (stk (m * 2^s / m') (m * 2^s % m')) ∧ bl (stk (m * 2^s / m') (m * 2^s % m')) ≤ bl m + s + 1 := by
 have hb : 0 < m' := Nat.pos_of_ne_zero m0'
 have bx : bl (m * 2^s) = bl m + s := bl_mul m s m0
 have pm := bl_pos m0
 have hq : 2^71 ≤ m * 2^s / m' := by
  rw [Nat.le_div_iff_mul_le hb]
  have h1 : m' < 2^(bl m') := bl_lt m'
  have x0 : m * 2^s ≠ 0 := Nat.mul_ne_zero m0 (Nat.ne_of_gt (Nat.two_pow_pos s))
  have h2 : 2^(bl (m * 2^s) - 1) ≤ m * 2^s := bl_ge x0
  have h3 : 2^71 * m' ≤ 2^71 * 2^(bl m') := Nat.mul_le_mul_left _ (Nat.le_of_lt h1)
  rw [← Nat.pow_add] at h3
  exact Nat.le_trans h3 (Nat.le_trans (Nat.pow_le_pow_right (by decide) (by omega)) h2)
 have bq : bl (m * 2^s / m') ≤ bl m + s := by rw [← bx]; exact bl_mono (Nat.div_le_self _ _)
 refine ⟨?_, Nat.le_trans stk_bl (by omega)⟩
 have q1 : 2^71 ≤ stk (m * 2^s / m') (m * 2^s % m') := by unfold stk; omega
 rcases Nat.lt_or_ge (bl (stk (m * 2^s / m') (m * 2^s % m'))) 71 with c | c
 ·have a := bl_lt (stk (m * 2^s / m') (m * 2^s % m'))
  have b := Nat.pow_le_pow_right (show 0 < 2 by decide) (show bl (stk (m * 2^s / m') (m * 2^s % m')) ≤ 71 by omega)
  omega
 ·exact c
theorem quot_ev (up : Bool) {n n' : Bool} {m m' : Nat} {x x' : Int} (hd : Dk n m x) (hd' : Dk n' m' x') (m0 : m ≠ 0) (m0' : m' ≠ 0) (la : nl m ≤ 300) (la' : nl m' ≤ 300) (x1 : -5000 ≤ x) (x2 : x ≤ 5000) (y1 : -5000 ≤ x') (y2 : x' ≤ 5000) {s Q : Nat} (hs : s = 72 + bl m' - bl m) (hQ : Q = stk (m * 2^s / m') (m * 2^s % m')) {R : Bool × List Int × Int × Int}
  (mk : Ev (fun k => dyadic_Make.f k ((n != n') && decide (cutm up (n != n') Q (bl Q - 70) ≠ 0)) (lb (cutm up (n != n') Q (bl Q - 70))) (x - x' - (s : Int) - 1 + ((bl Q - 70 : Nat) : Int))) R) :
  Ev (fun k => dyadic_quotient.f k n (lb m) x n' (lb m') x' 70 up) R := by
 have ba := bl_le_limbs m
 have bb := bl_le_limbs m'
 have hl := quo_long m0 m0' hs
 rw [← hQ] at hl
 have DI := Lib.hid (d_ints (ba := bl m) (bb := bl m') (s := s) (x := x) (x' := x') (by omega) (by omega) (by omega) (by omega) (by omega) (by omega) hs)
 have bx : bl (m * 2^s) = bl m + s := bl_mul m s m0
 have lx : nl (m * 2^s) ≤ 8192 := nl_nat (by omega)
 have bq : bl (m * 2^s / m') ≤ bl m + s := by rw [← bx]; exact bl_mono (Nat.div_le_self _ _)
 have lq : nl (m * 2^s / m') ≤ 8192 := nl_nat (by omega)
 have sh := short_ev up (neg := n != n') (Q := Q) (X := x - x' - (s : Int) - 1) (by omega) hl.1 (by omega) (by omega) mk
 have pQ : Q ≠ 0 := by intro e; rw [e] at hl; exact absurd hl.1 (by decide)
 have pl := nl_pos pQ
 unfold dyadic_quotient.f
 have pr : dyadic_precise.f 70 = some true := by decide
 refine Ev.bind (rn_ev pr) (Ev.congr (fun k => if_pos rfl) (Ev.bind (form_dk hd) (Ev.congr (fun k => if_pos rfl) (Ev.bind (form_dk hd') (Ev.congr (fun k => if_pos rfl) (Ev.bind (rn_ev (nought_f _ _ _)) (Ev.congr (fun k => if_neg (by simpa using m0')) (Ev.congr (fun k => if_neg (by rw [lb_len]; omega)) (Ev.congr (fun k => if_neg (by rw [lb_len]; omega)) (Ev.bind (rn_ev (bits_f (by omega))) (Ev.bind (rn_ev (bits_f (by omega))) ?_)))))))))))
 rw [DI.out.1, DI.out.2]
 have e1 : nat_Shl.f (lb (m * 2^s / m')) 1 = some (lb (m * 2^s / m' * 2^1), 0) := shl_f (n := 1) lq (.inr (by omega))
 refine Ev.bind (rn_ev (shl_w (n := s) (by omega) (.inr (by omega)))) (Ev.bind (rn_ev (quo_f lx (by omega) m0')) (Ev.bind (rn_ev e1) ?_))
 have e2 : m * 2^s / m' * 2^1 = 2 * (m * 2^s / m') := by rw [Nat.pow_one, Nat.mul_comm]
 rw [e2]
 by_cases r0 : m * 2^s % m' = 0
 ·have e3 : 2 * (m * 2^s / m') = Q := by rw [hQ]; unfold stk; rw [if_pos r0, Nat.add_zero]
  refine Ev.congr (fun k => if_neg (by rw [r0]; show ¬ (((lb 0).length : Nat) : Int) > 0; rw [lb_len, show nl 0 = 0 from rfl]; decide)) ?_
  rw [e3]
  rcases same_neg n n' with ⟨c1, c2⟩ | ⟨c1, c2⟩
  ·rw [c2] at sh
   exact Ev.congr (fun k => if_pos c1) (Ev.bind sh (Ev.now _))
  ·rw [c2] at sh
   refine Ev.congr (fun k => if_neg c1) ?_
   rw [show decide (((lb Q).length : Int) > 0) = true from decide_eq_true (by rw [lb_len]; omega)]
   exact Ev.bind sh (Ev.now _)
 ·have e3 : 2 * (m * 2^s / m') + 1 = Q := by rw [hQ]; unfold stk; rw [if_neg r0]
  have pr0 := nl_pos r0
  refine Ev.congr (fun k => if_pos (by rw [lb_len]; omega)) ?_
  have w1 : nat_Word.f 1 = some (lb 1) := word_f 1 (by decide)
  have l3 : nl Q ≤ 8192 := nl_nat (by omega)
  have l4 : nl (2 * (m * 2^s / m')) ≤ 8192 := Nat.le_trans (nl_mono (by omega)) l3
  have ad : nat_Add.f (lb (2 * (m * 2^s / m'))) (lb 1) = some (lb Q, 0) := by rw [add_f l4 (by decide) (by rw [e3]; exact l3), e3]
  refine Ev.bind (rn_ev w1) (Ev.bind (rn_ev ad) ?_)
  rcases same_neg n n' with ⟨c1, c2⟩ | ⟨c1, c2⟩
  ·rw [c2] at sh
   exact Ev.congr (fun k => if_pos c1) (Ev.bind sh (Ev.now _))
  ·rw [c2] at sh
   refine Ev.congr (fun k => if_neg c1) ?_
   rw [show decide (((lb Q).length : Int) > 0) = true from decide_eq_true (by rw [lb_len]; omega)]
   exact Ev.bind sh (Ev.now _)
theorem near_ev {f : Int} {F : Fmt} (h : Fm f F) (neg : Bool) {c : Nat} {X E : Int} (c0 : c ≠ 0) (hl : nl c ≤ 8192) (e1 : -1048576 ≤ E) (e2 : E ≤ X) (e3 : E ≤ F.low) (hb : bl (c * 2^(X - E).toNat) ≤ 1000000) :
  ∃ (n1 : Bool) (l1 : List Int) (x1 : Int), Ev (fun k => dyadic_Make.f k neg (lb c) X) (n1, l1, x1, 0) ∧ Ev (fun k => round_Nearest.f k f n1 l1 x1) (((pat F neg (rsz F (F.low - E).toNat (c * 2^(X - E).toNat)) : Nat) : Int), 0) := by
 have hlo := sz_low h
 obtain ⟨V, hV⟩ : ∃ V, V = vs neg c X E := ⟨_, rfl⟩
 have ab : V.natAbs = c * 2^(X - E).toNat := by rw [hV, vs_sv, sv_abs]
 obtain ⟨n1, m1, x1, dy, mk⟩ := make_dy (neg := neg) hl (fun e => absurd e c0) e1 (by omega) e2 hV.symm (by rw [ab]; exact hb)
 have pc : 0 < c * 2^(X - E).toNat := Nat.mul_pos (Nat.pos_of_ne_zero c0) (Nat.two_pow_pos _)
 have a2 := dy.abs
 have m1z : m1 ≠ 0 := fun e => by rw [ab, e, Nat.zero_mul] at a2; omega
 have sg : n1 = neg := by
  have v := dy.va
  rw [hV] at v
  unfold vs at v
  have pm : 0 < m1 * 2^(x1 - E).toNat := Nat.mul_pos (Nat.pos_of_ne_zero m1z) (Nat.two_pow_pos _)
  generalize m1 * 2^(x1 - E).toNat = A at *
  generalize c * 2^(X - E).toNat = B at *
  cases n1 <;> cases neg
  ·rfl
  ·rw [if_neg (by decide), if_pos rfl] at v; omega
  ·rw [if_pos rfl, if_neg (by decide)] at v; omega
  ·rfl
 have nv := nearest_ev h dy.dk dy.le e3
 have er : rnd F n1 m1 x1 E = pat F neg (rsz F (F.low - E).toNat (c * 2^(X - E).toNat)) := by
  unfold rnd
  rw [if_neg m1z, ← a2, ab, sg]
 rw [er] at nv
 exact ⟨n1, lb m1, x1, mk, nv⟩
theorem scale_le {c m m' nn s z g : Nat} (A : c * 2^nn * m' ≤ 2 * (m * 2^s)) : c * 2^(nn + z) * (m' * 2^g) ≤ m * 2^(s + 1 + z) * 2^g := by
 have a := Nat.mul_le_mul_right (2^z * 2^g) A
 have e1 : c * 2^(nn + z) * (m' * 2^g) = c * 2^nn * m' * (2^z * 2^g) := by rw [Nat.pow_add]; ac_rfl
 have e2 : m * 2^(s + 1 + z) * 2^g = 2 * (m * 2^s) * (2^z * 2^g) := by rw [Nat.pow_add, Nat.pow_add, Nat.pow_one]; ac_rfl
 rw [e1, e2]
 exact a
theorem scale_ge {c m m' nn s z g : Nat} (A : 2 * (m * 2^s) ≤ c * 2^nn * m') : m * 2^(s + 1 + z) * 2^g ≤ c * 2^(nn + z) * (m' * 2^g) := by
 have a := Nat.mul_le_mul_right (2^z * 2^g) A
 have e1 : c * 2^(nn + z) * (m' * 2^g) = c * 2^nn * m' * (2^z * 2^g) := by rw [Nat.pow_add]; ac_rfl
 have e2 : m * 2^(s + 1 + z) * 2^g = 2 * (m * 2^s) * (2^z * 2^g) := by rw [Nat.pow_add, Nat.pow_add, Nat.pow_one]; ac_rfl
 rw [e1, e2]
 exact a
theorem end_ev {f : Int} {F : Fmt} (h : Fm f F) (up : Bool) {n n' : Bool} {m m' : Nat} {x x' E : Int} (hd : Dk n m x) (hd' : Dk n' m' x') (m0 : m ≠ 0) (m0' : m' ≠ 0) (la : nl m ≤ 300) (la' : nl m' ≤ 300) (x1 : -5000 ≤ x) (x2 : x ≤ 5000) (y1 : -5000 ≤ x') (y2 : x' ≤ 5000) (e1 : -50000 ≤ E) (e2 : E ≤ -40000) {r : Nat} (nq : Nq F (qn m (x - x') E) (qd F m' E) r) :
  ∃ (n1 : Bool) (l1 : List Int) (z1 : Int) (t : Nat), t ≤ F.inf ∧ (bump up (n != n') = false → t ≤ r) ∧ (bump up (n != n') = true → r ≤ t) ∧ Ev (fun k => dyadic_quotient.f k n (lb m) x n' (lb m') x' 70 up) (n1, l1, z1, 0) ∧ Ev (fun k => round_Nearest.f k f n1 l1 z1) (((pat F (n != n') t : Nat) : Int), 0) := by
 have ba := bl_le_limbs m
 have bb := bl_le_limbs m'
 have hlo := sz_low h
 obtain ⟨s, hs⟩ : ∃ s, s = 72 + bl m' - bl m := ⟨_, rfl⟩
 obtain ⟨Q, hQ⟩ : ∃ Q, Q = stk (m * 2^s / m') (m * 2^s % m') := ⟨_, rfl⟩
 have hl := quo_long m0 m0' hs
 rw [← hQ] at hl
 obtain ⟨nn, hn⟩ : ∃ nn, nn = bl Q - 70 := ⟨_, rfl⟩
 obtain ⟨c, hc⟩ : ∃ c, c = cutm up (n != n') Q nn := ⟨_, rfl⟩
 have hb : 0 < m' := Nat.pos_of_ne_zero m0'
 have Q0 : Q ≠ 0 := by intro e; rw [e] at hl; exact absurd hl.1 (by decide)
 have hc' : c = Q / 2^nn + if bump up (n != n') = true ∧ decide (((tz Q : Nat) : Int) < (nn : Int)) = true then 1 else 0 := hc
 have bq : bl (Q / 2^nn) ≤ 70 := by
  refine bl_le_of_lt (Nat.div_lt_of_lt_mul ?_)
  rw [← Nat.pow_add]
  have := bl_lt Q
  rwa [show nn + 70 = bl Q by omega]
 have bc : bl c ≤ 71 := by
  refine Nat.le_trans (bl_mono (b := Q / 2^nn + 1) ?_) (bl_add bq (by decide))
  rw [hc']
  split <;> omega
 have c0 : c ≠ 0 := by
  have q1 : 0 < Q / 2^nn := Nat.div_pos (Nat.le_trans (Nat.pow_le_pow_right (by decide) (show nn ≤ bl Q - 1 by omega)) (bl_ge Q0)) (Nat.two_pow_pos nn)
  omega
 obtain ⟨z, hz⟩ : ∃ z, z = (x - x' - (s : Int) - 1 - E).toNat := ⟨_, rfl⟩
 have eX : (x - x' - (s : Int) - 1 + ((nn : Nat) : Int) - E).toNat = nn + z := by omega
 have eq : (x - x' - E).toNat = s + 1 + z := by omega
 have bz : bl (c * 2^(nn + z)) ≤ 1000000 := by rw [bl_mul _ _ c0]; omega
 obtain ⟨n1, l1, z1, mk, nv⟩ := near_ev h (n != n') (c := c) (X := x - x' - (s : Int) - 1 + ((nn : Nat) : Int)) (E := E) c0 (nl_nat (by omega)) (by omega) (by omega) (by omega) (by rw [eX]; exact bz)
 have q := quot_ev up hd hd' m0 m0' la la' x1 x2 y1 y2 hs hQ (R := (n1, l1, z1, 0)) (by
  rw [← hn, ← hc, decide_eq_true c0, Bool.and_true]
  exact mk)
 rw [eX] at nv
 have st := rsz_nst h (F.low - E).toNat (c * 2^(nn + z))
 have n2 := nq_of_nst st
 unfold qn qd at nq
 rw [eq] at nq
 have p2 := Nat.two_pow_pos (F.low - E).toNat
 refine ⟨n1, l1, z1, _, st.le, fun b => ?_, fun b => ?_, q, nv⟩
 ·rw [if_neg (by rw [b]; rintro ⟨w, -⟩; cases w), Nat.add_zero] at hc'
  have A : c * 2^nn * m' ≤ 2 * (m * 2^s) := by rw [hc', hQ]; exact cut_lo hb (by omega)
  exact nq_mono h p2 (Nat.mul_pos hb p2) (scale_le A) n2 nq
 ·have A : 2 * (m * 2^s) ≤ c * 2^nn * m' := by
   have := cut_hi (X := m * 2^s) (nn := nn) hb (by omega) (by rw [← hQ]; exact Q0)
   rw [← hQ] at this
   rw [hc', b]
   simp only [true_and]
   exact this
  exact nq_mono h (Nat.mul_pos hb p2) p2 (scale_ge A) nq n2
theorem neg_odd {n : Bool} {m : Nat} {x : Int} (h : Dk n m x) (c : m ≠ 0) : Ev (fun k => dyadic_Neg.f k n (lb m) x) (!n, lb m, x, 0) := by
 unfold dyadic_Neg.f
 refine Ev.bind (form_dk h) (Ev.congr (fun k => if_pos rfl) ?_)
 simp only [twin_f _ _ h.lim, Option.bind_some, nought_f, decide_eq_false c]
 cases n
 ·exact Ev.congr (fun k => if_neg (by decide)) (Ev.now _)
 ·exact Ev.congr (fun k => if_pos rfl) (Ev.now _)
theorem mul_nought {n' : Bool} {m' : Nat} {x' : Int} (hd : Dk false 0 0) (h' : Dk n' m' x') : Ev (fun k => dyadic_Mul.f k false (lb 0) 0 n' (lb m') x') (false, lb 0, 0, 0) := by
 have e1 : num_Mul.f false (lb 0) n' (lb m') = some (false, lb 0, 0) := by
  unfold num_Mul.f
  rw [numForm_lb hd.lim (fun _ => rfl), numForm_lb h'.lim (fun e => (h'.zero e).1)]
  have e2 : natmul_Mul.f (lb 0) (lb m') = some (lb 0, 0) := by
   unfold natmul_Mul.f
   rw [if_pos ⟨fmL_lb hd.lim, fmL_lb h'.lim, by rw [vL_lb, vL_lb, Nat.zero_mul]; decide⟩, vL_lb, vL_lb, Nat.zero_mul]
  simp only [Option.bind_some, if_true, e2, told_f, ne_eq, not_true_eq_false, decide_false, Bool.and_false]
 have mk : ∀ y : Int, Ev (fun k => dyadic_Make.f k false (lb 0) y) (false, lb 0, 0, 0) := fun y => by
  unfold dyadic_Make.f
  rw [numForm_lb hd.lim (fun _ => rfl)]
  simp only [Option.bind_some, if_true]
  exact Ev.congr (fun k => if_pos rfl) (Ev.now _)
 unfold dyadic_Mul.f
 exact Ev.bind (form_dk hd) (Ev.congr (fun k => if_pos rfl) (Ev.bind (form_dk h') (Ev.congr (fun k => if_pos rfl) (Ev.bind (rn_ev e1) (Ev.congr (fun k => if_pos rfl) (Ev.bind (mk _) (Ev.now _)))))))
theorem num_1 : Ev (fun k => gnomonlaw08_num.f k 1 0) (false, lb 1, 0) := Ev.of (fun k => gnomonlaw08_num.mono _ _ k) (k := 200) (by decide +kernel)
theorem num_3 : Ev (fun k => gnomonlaw08_num.f k 3 0) (false, lb 3, 0) := Ev.of (fun k => gnomonlaw08_num.mono _ _ k) (k := 200) (by decide +kernel)
theorem quo_third : Ev (fun k => round_Quotient.f k 32 false (lb 1) 0 false (lb 3) 0) (1051372203, 0) := Ev.of (fun k => round_Quotient.mono _ _ _ _ _ _ _ k) (k := 200) (by decide +kernel)
theorem neq_not (n n' : Bool) : ((!n) != n') = !(n != n') := by cases n <;> cases n' <;> rfl
theorem neq_back (n n' : Bool) : ((n != n') != n') = n := by cases n <;> cases n' <;> rfl
theorem quoted_law (b n : Bool) (l : List Int) (x : Int) (n' : Bool) (l' : List Int) (x' : Int) (hw : Wf l) (hw' : Wf l') : Ev (fun k => gnomonlaw08_RoundQuoted.f k b n l x n' l' x') true := by
 obtain ⟨f, F, h, ef⟩ := format_f b
 have hz := h.sz
 have hl := sz_low h
 unfold gnomonlaw08_RoundQuoted.f
 refine Ev.bind (rn_ev ef) (Ev.bind num_1 (Ev.bind num_3 (Ev.bind quo_third (Ev.congr (fun k => if_pos rfl) (Ev.congr (fun k => if_pos rfl) (Ev.bind RnAw.rn_awake (Ev.congr (fun k => if_pos rfl) ?_)))))))
 obtain ⟨ea, e1, e2⟩ := easy_ev n l x
 refine Ev.bind e1 ?_
 by_cases c : ea = true
 rotate_left
 ·exact Ev.congr (fun k => if_neg c) (Ev.now _)
 refine Ev.congr (fun k => if_pos c) ?_
 obtain ⟨c1, c2, c3, c4⟩ := e2 c
 obtain ⟨eb, e3, e4⟩ := easy_ev n' l' x'
 refine Ev.bind e3 ?_
 by_cases d : eb = true
 rotate_left
 ·exact Ev.congr (fun k => if_neg d) (Ev.now _)
 refine Ev.congr (fun k => if_pos d) ?_
 obtain ⟨d1, d2, d3, d4⟩ := e4 d
 obtain ⟨m, rfl, hd⟩ := dk_of hw c1
 obtain ⟨m', rfl, hd'⟩ := dk_of hw' d1
 rw [lb_len] at c2 d2
 clear e1 e2 e3 e4
 by_cases m0' : m' = 0
 ·exact Ev.bind (quo_by0 h hd hd' m0') (Ev.bind (rn_ev (nought_lb _ _ _)) (Ev.congr (fun k => if_pos (decide_eq_true m0')) (Ev.congr (fun k => if_pos rfl) (Ev.now _))))
 have nb : ¬ decide (m' = 0) = true := by simpa using m0'
 have la : nl m ≤ 4096 := by omega
 have la' : nl m' ≤ 4096 := by omega
 by_cases m0 : m = 0
 ·have qz := quo_zero h hd hd' m0 m0' la la'
  obtain ⟨en, ex⟩ := hd.zero m0
  subst m0
  subst en
  subst ex
  have nv := nearest_ev h hd (E := F.low - 1) (by omega) (by omega)
  have er : rnd F false 0 0 (F.low - 1) = 0 := by unfold rnd; rw [if_pos rfl]
  rw [er] at nv
  exact Ev.bind qz (Ev.bind (rn_ev (nought_lb _ _ _)) (Ev.congr (fun k => if_neg nb) (Ev.bind (mul_nought hd hd') (Ev.bind qz (Ev.bind nv (Ev.congr (fun k => if_pos rfl) (Ev.congr (fun k => if_pos rfl) (Ev.congr (fun k => if_pos rfl) (Ev.congr (fun k => if_pos rfl) (Ev.congr (fun k => if_pos rfl) (Ev.bind (rn_ev (nought_lb _ _ _)) (Ev.congr (fun k => if_pos rfl) (Ev.now _)))))))))))))
 have na : ¬ decide (m = 0) = true := by simpa using m0
 have bm := bl_le_limbs m
 have bm' := bl_le_limbs m'
 have b2 := bl_mul2 (a := 19200) (b := 19200) (m := m) (m' := m') (by omega) (by omega)
 have lp : nl (m * m') ≤ 4096 := by unfold nl; omega
 have mm := Nat.mul_ne_zero m0 m0'
 have mq := mul_dk hd hd' m0 m0' (by omega) (by omega) (by omega)
 have hp : Dk (n != n') (m * m') (x + x') := ⟨by omega, fun e => absurd e mm, fun _ => by rw [Nat.mul_mod, hd.odd m0, hd'.odd m0'], by omega, by omega⟩
 have hdn : Dk (!n) m x := ⟨hd.lim, fun e => absurd e m0, hd.odd, hd.low, hd.high⟩
 obtain ⟨E, t1, t2⟩ : ∃ E : Int, -50000 ≤ E ∧ E ≤ -40000 := ⟨-40000, by omega, by omega⟩
 obtain ⟨r, rl, nq, q1⟩ := quo_val h (E := E) hd hd' m0 m0' la la' (by omega) (by omega) (by omega)
 obtain ⟨r', rl', nq', q2⟩ := quo_val h (E := E) hp hd' mm m0' lp la' (by omega) (by omega) (by omega)
 obtain ⟨r'', rl'', nq'', q3⟩ := quo_val h (E := E) hdn hd' m0 m0' la la' (by omega) (by omega) (by omega)
 have pd : 0 < qd F m' E := Nat.mul_pos (Nat.pos_of_ne_zero m0') (Nat.two_pow_pos _)
 have er : r'' = r := nq_uniq h pd nq'' nq
 subst er
 have nv := nearest_ev h hd (E := E) (by omega) (by omega)
 have nn : rnd F n m x E = pat F ((n != n') != n') r' := by
  have e5 : qn (m * m') (x + x' - x') E = (m * 2^(x - E).toNat) * m' := by
   unfold qn
   rw [show x + x' - x' - E = x - E by omega]
   ac_rfl
  have e6 : qd F m' E = 2^(F.low - E).toNat * m' := by unfold qd; rw [Nat.mul_comm]
  rw [e5, e6] at nq'
  have st := nst_of_nq (nq_scale (Nat.pos_of_ne_zero m0') nq')
  unfold rnd
  rw [if_neg m0, rsz_eq h st, neq_back]
 rw [nn] at nv
 obtain ⟨g1, h1, z1, t, tl, ta, tb, p1, v1⟩ := end_ev h false hd hd' m0 m0' (by omega) (by omega) c3 c4 d3 d4 t1 t2 nq
 obtain ⟨g2, h2, z2, u, ul, ua, ub, p2, v2⟩ := end_ev h true hd hd' m0 m0' (by omega) (by omega) c3 c4 d3 d4 t1 t2 nq
 have rk1 : rkI (n != n') t ≤ rkI (n != n') r'' ∧ rkI (n != n') r'' ≤ rkI (n != n') u := by
  unfold bump at ta tb ua ub
  unfold rkI
  cases e : (n != n')
  ·rw [e] at ta tb ua ub
   have a1 := ta rfl
   have a2 := ub rfl
   rw [if_neg (by decide), if_neg (by decide), if_neg (by decide)]
   omega
  ·rw [e] at ta tb ua ub
   have a1 := tb rfl
   have a2 := ua rfl
   rw [if_pos rfl, if_pos rfl, if_pos rfl]
   omega
 have qd1 : Ev (fun k => dyadic_QuoDown.f k n (lb m) x n' (lb m') x' 70) (g1, h1, z1, 0) := by
  unfold dyadic_QuoDown.f
  exact Ev.bind p1 (Ev.now _)
 have qd2 : Ev (fun k => dyadic_QuoUp.f k n (lb m) x n' (lb m') x' 70) (g2, h2, z2, 0) := by
  unfold dyadic_QuoUp.f
  exact Ev.bind p2 (Ev.now _)
 have xr : (((pat F ((!n) != n') r'' : Nat) : Int) == Go.bits .xor .u64 ((pat F (n != n') r'' : Nat) : Int) ((F.sg : Nat) : Int)) = true := by
  rw [xor_pat h (n != n') (show r'' < F.sg by omega), neq_not]
  exact beq_self_eq_true _
 refine Ev.bind q1 (Ev.bind (rn_ev (nought_lb _ _ _)) (Ev.congr (fun k => if_neg nb) (Ev.bind mq (Ev.bind q2 (Ev.bind nv (Ev.congr (fun k => if_pos rfl) (Ev.congr (fun k => if_pos rfl) (Ev.congr (fun k => if_pos rfl) (Ev.congr (fun k => if_pos rfl) (Ev.congr (fun k => if_pos rfl) (Ev.bind (rn_ev (nought_lb _ _ _)) (Ev.congr (fun k => if_neg na) ?_))))))))))))
 refine Ev.bind qd1 (Ev.bind qd2 (Ev.bind v1 (Ev.bind v2 (Ev.congr (fun k => if_pos rfl) (Ev.congr (fun k => if_pos rfl) (Ev.congr (fun k => if_pos rfl) (Ev.congr (fun k => if_pos rfl) ?_)))))))
 refine Ev.bind (lawRank_pat h (n != n') tl) (Ev.bind (lawRank_pat h (n != n') rl) (Ev.congr (fun k => if_neg (by omega)) (Ev.bind (lawRank_pat h (n != n') rl) (Ev.bind (lawRank_pat h (n != n') ul) (Ev.congr (fun k => if_neg (by omega)) ?_)))))
 refine Ev.bind (neg_odd hd m0) (Ev.bind q3 (Ev.congr (fun k => if_pos rfl) (Ev.congr (fun k => if_pos rfl) (Ev.bind (rn_ev (lawSign_f h)) ?_))))
 rw [xr]
 exact Ev.now _
end Go.Proofs.YtelfmddcjlocpaaGreatDoor.RoundQuotedL
