/- What round.Quotient and round.Root answer is what the document's answer. Plain Lean over the functions. Condition: words. -/
import Derived.Test.YtelfmddcjlocpaaGreatDoorKRoundQuotedGN
import Derived.Test.YtelfmddcjlocpaaGreatDoorKRoundQuotedPxNd
import Derived.Test.YtelfmddcjlocpaaGreatDoorKRoundQuotedPxV0
set_option linter.unusedVariables false
namespace Go.Proofs.YtelfmddcjlocpaaGreatDoor.RnQ
open Go.RowKit Go.Proofs.YtelfmddcjlocpaaGreatDoorW.PrintWords Go.Proofs.YtelfmddcjlocpaaGreatDoorW.PrintMore Go.Proofs.YtelfmddcjlocpaaGreatDoor.Num Go.Proofs.YtelfmddcjlocpaaGreatDoor.PLib Go.Proofs.YtelfmddcjlocpaaGreatDoor.PRef Go.Proofs.YtelfmddcjlocpaaGreatDoor.Ref Go.Proofs.YtelfmddcjlocpaaGreatDoor.GTh Go.Proofs.YtelfmddcjlocpaaGreatDoor.Given Go.Proofs.YtelfmddcjlocpaaGreatDoor.Rp1 Go.Proofs.YtelfmddcjlocpaaGreatDoor.Rp3 Go.Proofs.YtelfmddcjlocpaaGreatDoor.Rp4 Go.Proofs.YtelfmddcjlocpaaGreatDoor.Rp5 Go.Proofs.YtelfmddcjlocpaaGreatDoor.Rp7 Go.Proofs.YtelfmddcjlocpaaGreatDoor.BinLaw Go.Proofs.YtelfmddcjlocpaaGreatDoor.Fm8 Go.Proofs.YtelfmddcjlocpaaGreatDoor.Rnd Go.Proofs.YtelfmddcjlocpaaGreatDoor.Sq Go.Proofs.YtelfmddcjlocpaaGreatDoor.Sz Go.Proofs.YtelfmddcjlocpaaGreatDoor.SzR Go.Proofs.YtelfmddcjlocpaaGreatDoor.RnL Go.Proofs.YtelfmddcjlocpaaGreatDoor.RnN
theorem wds {f : Int} {F : Fmt} (h : Fm f F) : ((((F.man : Nat) : Int)) == 0 && (F.low == 0 && (((F.wd - 1 : Nat) : Int) == 0))) = false := by rcases h with ⟨_, rfl⟩ | ⟨_, rfl⟩ <;> rfl
theorem nl_nat {m : Nat} (h : bl m ≤ 524288) : nl m ≤ 8192 := by unfold nl; omega
theorem stk_bl {q r : Nat} : bl (stk q r) ≤ bl q + 1 := by
 refine bl_le_of_lt ?_
 have := bl_lt q
 rw [Nat.pow_succ]
 unfold stk
 split <;> omega
theorem stk_ne {q r : Nat} (h : q ≠ 0) : stk q r ≠ 0 := by unfold stk; omega
theorem sticky_ev {q r : Nat} (hq : bl q ≤ 500000) (hr : nl r ≤ 8192) : round_sticky.f (lb q) (lb r) = some (lb (stk q r)) := by
 have lq : nl q ≤ 8192 := nl_nat (by omega)
 have e1 : nat_Shl.f (lb q) 1 = some (lb (q * 2^1), 0) := shl_f (n := 1) lq (.inr (by omega))
 have b2 : bl (q * 2^1) ≤ bl q + 1 := by
  refine bl_le_of_lt ?_
  have := bl_lt q
  rw [Nat.pow_succ]; omega
 have l2 : nl (q * 2^1) ≤ 8192 := nl_nat (by omega)
 unfold round_sticky.f
 rw [e1, Option.bind_some]
 by_cases r0 : r = 0
 ·subst r0
  rw [if_neg (by rw [lb_nil]; decide)]
  unfold stk
  rw [if_pos rfl, Nat.add_zero, Nat.pow_one, Nat.mul_comm]
 ·have := nl_pos r0
  rw [if_pos (by rw [lb_len]; omega)]
  have w1 : nat_Word.f 1 = some (lb 1) := by
   unfold nat_Word.f
   rw [if_neg (by decide)]
   rfl
  have hb3 : bl (q * 2^1 + 1) ≤ bl q + 1 := by
   refine bl_le_of_lt ?_
   have := bl_lt q
   rw [show q * 2^1 = q * 2 by rw [Nat.pow_one], Nat.pow_succ]; omega
  have l3 : nl (q * 2^1 + 1) ≤ 8192 := nl_nat (by omega)
  have n1 : nl 1 ≤ 8192 := by rw [nl_one (by decide) (by decide)]; decide
  have ad : nat_Add.f (lb (q * 2^1)) (lb 1) = some (lb (q * 2^1 + 1), 0) := by
   unfold nat_Add.f
   rw [if_pos ⟨fmL_lb l2, fmL_lb n1, by rw [vL_lb, vL_lb]; exact l3⟩, vL_lb, vL_lb]
  rw [w1, Option.bind_some, ad, Option.bind_some]
  unfold stk
  rw [if_neg r0, Nat.pow_one, Nat.mul_comm]
theorem long_f (n : Bool) (m : Nat) (x : Int) : round_long.f n (lb m) x = some (decide (nl m > 4096)) := by
 unfold round_long.f
 rw [lb_len]
 congr 1
 exact decide_eq_decide.2 ⟨fun h => by omega, fun h => by omega⟩
theorem docLong_f (n : Bool) (m : Nat) (x : Int) : gnomonref08_long.f n (lb m) x = some (decide (nl m > 4096)) := long_f n m x
theorem nought_lb (n : Bool) (m : Nat) (x : Int) : gnomonref05_Nought.f n (lb m) x = some (decide (m = 0)) := by
 unfold gnomonref05_Nought.f
 rw [lb_len]
 congr 1
 by_cases c : m = 0
 ·subst c; rfl
 ·have := nl_pos c
  rw [decide_eq_false c]
  exact beq_eq_false_iff_ne.2 (by omega)
theorem check_ok {f : Int} {F : Fmt} (h : Fm f F) {n n' : Bool} {l l' : List Int} {x x' : Int} (c : dyB n l x = true) (c' : dyB n' l' x' = true) : Ev (fun k => gnomonref08_check.f k f n l x n' l' x') 0 := by
 obtain ⟨G, oF⟩ := rn_of h
 have f1 := docForm_ev n l x
 have f2 := docForm_ev n' l' x'
 rw [c] at f1
 rw [c'] at f2
 unfold gnomonref08_check.f
 exact Ev.bind (rn_ev oF) (Ev.congr (fun k => if_pos rfl) (Ev.bind f1 (Ev.congr (fun k => if_pos rfl) (Ev.bind f2 (Ev.congr (fun k => if_pos rfl) (Ev.now _))))))
theorem check_bad {f : Int} {F : Fmt} (h : Fm f F) {n n' : Bool} {l l' : List Int} {x x' : Int} (c : ¬ (dyB n l x = true ∧ dyB n' l' x' = true)) : Ev (fun k => gnomonref08_check.f k f n l x n' l' x') 2 := by
 obtain ⟨G, oF⟩ := rn_of h
 have f1 := docForm_ev n l x
 have f2 := docForm_ev n' l' x'
 unfold gnomonref08_check.f
 refine Ev.bind (rn_ev oF) (Ev.congr (fun k => if_pos rfl) (Ev.bind f1 ?_))
 by_cases d : dyB n l x = true
 ·refine Ev.congr (fun k => if_pos d) (Ev.bind f2 (Ev.congr (fun k => if_neg fun d' => c ⟨d, d'⟩) (Ev.now _)))
 ·exact Ev.congr (fun k => if_neg d) (Ev.now _)
theorem check_no {f : Int} (h : f ≠ 32) (h' : f ≠ 64) {n n' : Bool} {l l' : List Int} {x x' : Int} : Ev (fun k => gnomonref08_check.f k f n l x n' l' x') 1 := by
 unfold gnomonref08_check.f
 exact Ev.bind (rn_ev (rn_no h h')) (Ev.congr (fun k => if_neg (by decide)) (Ev.now _))
theorem quo_size {f : Int} {F : Fmt} (h : Fm f F) {a b : Nat} {e : Int} (a0 : a ≠ 0) (b0 : b ≠ 0) (la : nl a ≤ 4096) (lb' : nl b ≤ 4096) (e1 : -2097152 ≤ e) (e2 : e ≤ 2097152) (G Q : Int) {s : Nat} (hs : s = F.man + 3 + bl b - bl a) :
  ∃ r : Nat, r ≤ F.inf ∧ Ev (fun k => round_widths_size.f k (F.man : Nat) F.low ((F.wd - 1 : Nat) : Int) (lb (stk (a * 2^s / b) (a * 2^s % b))) (e - (s : Int) - 1)) (r : Int) ∧ Ev (fun k => gnomonref08_Size.f k ((F.sg : Nat) : Int) ((F.man : Nat) : Int) F.low G ((F.inf : Nat) : Int) Q (dg a) (dg b) e false) (r : Int) := by
 have hl := sz_low h
 have hml := fm_man h
 have ba := bl_le_limbs a
 have bb := bl_le_limbs b
 have pa := bl_pos a0
 have pb := bl_pos b0
 have bx : bl (a * 2^s) = bl a + s := bl_mul a s a0
 have hb : 0 < b := Nat.pos_of_ne_zero b0
 have hq : 2^(F.man + 2) ≤ a * 2^s / b := by
  rw [Nat.le_div_iff_mul_le hb]
  have h1 : b < 2^(bl b) := bl_lt b
  have x0 : a * 2^s ≠ 0 := Nat.mul_ne_zero a0 (Nat.ne_of_gt (Nat.two_pow_pos s))
  have h2 : 2^(bl (a * 2^s) - 1) ≤ a * 2^s := bl_ge x0
  have h3 : 2^(F.man + 2) * b ≤ 2^(F.man + 2) * 2^(bl b) := Nat.mul_le_mul_left _ (Nat.le_of_lt h1)
  rw [← Nat.pow_add] at h3
  exact Nat.le_trans h3 (Nat.le_trans (Nat.pow_le_pow_right (by decide) (by omega)) h2)
 have q0 : a * 2^s / b ≠ 0 := fun z => by rw [z] at hq; have := Nat.two_pow_pos (F.man + 2); omega
 have bq : bl (a * 2^s / b) ≤ bl a + s := by rw [← bx]; exact bl_mono (Nat.div_le_self _ _)
 have bs : bl (stk (a * 2^s / b) (a * 2^s % b)) ≤ bl a + s + 1 := Nat.le_trans stk_bl (by omega)
 obtain ⟨E, hE⟩ : ∃ E, E = min (e - (s : Int) - 1) (F.low - 1) := ⟨_, rfl⟩
 have hsz : s ≤ 262200 := by omega
 have sw := size_wide h (m := stk (a * 2^s / b) (a * 2^s % b)) (x := e - (s : Int) - 1) (E := E) (stk_ne q0) (nl_nat (by omega)) ⟨by omega, by omega⟩ (by omega) (by omega)
 obtain ⟨r, nq, rv⟩ := Sz.size_ev h (A := a) (B := b) (e := e) (E := E) ⟨a0, b0, by omega, by omega, by omega, by omega, by omega, by omega⟩ G Q
 obtain ⟨K, hK⟩ : ∃ K, K = (e - (s : Int) - 1 - E).toNat := ⟨_, rfl⟩
 obtain ⟨g, hg⟩ : ∃ g, g = (F.low - E).toNat := ⟨_, rfl⟩
 have n2 := stk_quo h (x := a * 2^s) (b := b) (K := K) (g := g) hb hq (rsz_nst h g _)
 have e3 : qn a e E = a * 2^s * 2^(K + 1) := by
  unfold qn
  rw [show (e - E).toNat = s + (K + 1) by omega, Nat.pow_add 2 s, Nat.mul_assoc]
 have e4 : qd F b E = b * 2^g := by unfold qd; rw [hg]
 rw [e3, e4] at nq
 have eq := nq_uniq h (Nat.mul_pos hb (Nat.two_pow_pos g)) n2 nq
 rw [← hK, ← hg, eq] at sw
 exact ⟨r, nq.le, sw, rv⟩
theorem shl_w {m n : Nat} (h : nl m ≤ 8192) (hn : m = 0 ∨ bl m + n ≤ 524288) : nat_Shl.f (lb m) (n : Int) = some (lb (m * 2^n), 0) := shl_f h hn
theorem quo_f {x b : Nat} (hx : nl x ≤ 8192) (hb : nl b ≤ 8192) (b0 : b ≠ 0) : natdiv_QuoRem.f (lb x) (lb b) = some (lb (x / b), lb (x % b), 0) := by
 unfold natdiv_QuoRem.f
 rw [if_pos ⟨fmL_lb hx, fmL_lb hb, by rw [vL_lb]; exact b0⟩, vL_lb, vL_lb]
theorem q_ints {man ba bb s : Nat} {x x' : Int} (hm : man ≤ 53) (ha : ba ≤ 262144) (hb : bb ≤ 262144) (k1 : -1048576 ≤ x) (k2 : x ≤ 1048576) (k3 : -1048576 ≤ x') (k4 : x' ≤ 1048576) (hs : s = man + 3 + bb - ba) :
  mx 0 (wrap64 ((wrap64 ((wrap64 ((man : Int) + 3)) + (bb : Int))) - (ba : Int))) = (s : Int) ∧ wrap64 ((wrap64 ((wrap64 (x - x')) - (s : Int))) - 1) = x - x' - (s : Int) - 1 ∧ wrap64 (x - x') = x - x' := by
 have e1 : wrap64 ((man : Int) + 3) = (man : Int) + 3 := w64 (by omega) (by omega)
 have e2 : wrap64 ((man : Int) + 3 + (bb : Int)) = (man : Int) + 3 + (bb : Int) := by clear e1; exact w64 (by omega) (by omega)
 have e3 : wrap64 ((man : Int) + 3 + (bb : Int) - (ba : Int)) = (man : Int) + 3 + (bb : Int) - (ba : Int) := by clear e1 e2; exact w64 (by omega) (by omega)
 have e4 : wrap64 (x - x') = x - x' := by clear e1 e2 e3; exact w64 (by omega) (by omega)
 have e5 : wrap64 (x - x' - (s : Int)) = x - x' - (s : Int) := by clear e1 e2 e3 e4; exact w64 (by omega) (by omega)
 have e6 : wrap64 (x - x' - (s : Int) - 1) = x - x' - (s : Int) - 1 := by clear e1 e2 e3 e4 e5; exact w64 (by omega) (by omega)
 refine ⟨?_, by rw [e4, e5, e6], e4⟩
 rw [e1, e2, e3]
 clear e1 e2 e3 e4 e5 e6
 unfold mx
 split <;> omega
theorem rn_quotient (f : Int) (n n' : Bool) (l l' : List Int) (hw : Wf l) (hw' : Wf l') (x x' : Int) : ∃ r e : Int, Ev (fun k => round_Quotient.f k f n l x n' l' x') (r, e) ∧ Ev (fun k => gnomonref08_DocQuotient.f k f n l x n' l' x') (r, e) := by
 by_cases hf : f = 32 ∨ f = 64
 rotate_left
 ·have n1 : f ≠ 32 := fun c => hf (.inl c)
  have n2 : f ≠ 64 := fun c => hf (.inr c)
  refine ⟨0, 1, ?_, ?_⟩
  ·unfold round_Quotient.f
   exact Ev.bind (rn_ev (of_no n1 n2)) (Ev.congr (fun k => if_pos rfl) (Ev.now _))
  ·unfold gnomonref08_DocQuotient.f
   exact Ev.bind (check_no n1 n2) (Ev.congr (fun k => if_neg (by decide)) (Ev.now _))
 obtain ⟨F, h⟩ : ∃ F, Fm f F := by
  rcases hf with rfl | rfl
  ·exact ⟨fS, tS⟩
  ·exact ⟨fD, tD⟩
 obtain ⟨G, oF⟩ := rn_of h
 have pg : ∀ {r e : Int}, Ev (fun k => (dyadic_Form.f k n l x).bind fun t2 => (if t2 = true then ((dyadic_Form.f k n' l' x').bind fun t3 => (if t3 = true then (if (l'.length : Int) = 0 then (some (0, 4)) else ((round_long.f n l x).bind fun t4 => (if t4 = true then (some (0, 5)) else ((round_long.f n' l' x').bind fun t5 => (if t5 = true then (some (0, 5)) else (if (l.length : Int) = 0 then (some (0, 0)) else ((nat_Bits.f l').bind fun t6 => ((nat_Bits.f l).bind fun t7 => ((nat_Shl.f l (mx 0 (wrap64 ((wrap64 ((wrap64 (((F.man : Nat) : Int) + 3)) + t6)) - t7)))).bind fun bt8 => ((natdiv_QuoRem.f bt8.1 l').bind fun bt9 => ((round_sticky.f bt9.1 bt9.2.1).bind fun t10 => ((round_widths_size.f k ((F.man : Nat) : Int) F.low ((F.wd - 1 : Nat) : Int) t10 (wrap64 ((wrap64 ((wrap64 (x - x')) - (mx 0 (wrap64 ((wrap64 ((wrap64 (((F.man : Nat) : Int) + 3)) + t6)) - t7))))) - 1))).bind fun t11 => ((round_widths_signed.f ((F.man : Nat) : Int) F.low ((F.wd - 1 : Nat) : Int) (n != n') t11).bind fun t12 => (some (t12, 0))))))))))))))) else (some (0, 2)))) else (some (0, 2)))) (r, e) → Ev (fun k => round_Quotient.f k f n l x n' l' x') (r, e) := fun {r e} q => by
  unfold round_Quotient.f
  refine Ev.bind (rn_ev (of_f h)) (Ev.congr (fun k => if_neg (by rw [wds h]; decide)) ?_)
  exact q
 by_cases c : dyB n l x = true ∧ dyB n' l' x' = true
 rotate_left
 ·refine ⟨0, 2, pg ?_, ?_⟩
  ·have f1 := form_ev n l x
   have f2 := form_ev n' l' x'
   refine Ev.bind f1 ?_
   by_cases d : dyB n l x = true
   ·exact Ev.congr (fun k => if_pos d) (Ev.bind f2 (Ev.congr (fun k => if_neg fun d' => c ⟨d, d'⟩) (Ev.now _)))
   ·exact Ev.congr (fun k => if_neg d) (Ev.now _)
  ·unfold gnomonref08_DocQuotient.f
   exact Ev.bind (check_bad h c) (Ev.congr (fun k => if_neg (by decide)) (Ev.now _))
 have ck := check_ok h c.1 c.2
 have f1 := form_ev n l x
 have f2 := form_ev n' l' x'
 rw [c.1] at f1
 rw [c.2] at f2
 obtain ⟨a, rfl, dk⟩ := dk_of hw c.1
 obtain ⟨b, rfl, dk'⟩ := dk_of hw' c.2
 have pg2 := fun {r e : Int} q => pg (r := r) (e := e) (Ev.bind f1 (Ev.congr (fun k => if_pos rfl) (Ev.bind f2 (Ev.congr (fun k => if_pos rfl) q))))
 by_cases b0 : b = 0
 ·refine ⟨0, 4, pg2 ?_, ?_⟩
  ·exact Ev.congr (fun k => if_pos (by rw [lb_len, b0]; rfl)) (Ev.now _)
  ·unfold gnomonref08_DocQuotient.f
   exact Ev.bind ck (Ev.congr (fun k => if_pos rfl) (Ev.bind (rn_ev (nought_lb _ _ _)) (Ev.congr (fun k => if_pos (decide_eq_true b0)) (Ev.now _))))
 have lb0 : ¬ (((lb b).length : Nat) : Int) = 0 := by have := nl_pos b0; rw [lb_len]; omega
 have nb0 : ¬ decide (b = 0) = true := by simpa using b0
 by_cases la : nl a > 4096
 ·refine ⟨0, 5, pg2 ?_, ?_⟩
  ·exact Ev.congr (fun k => if_neg lb0) (Ev.bind (rn_ev (long_f _ _ _)) (Ev.congr (fun k => if_pos (decide_eq_true la)) (Ev.now _)))
  ·unfold gnomonref08_DocQuotient.f
   exact Ev.bind ck (Ev.congr (fun k => if_pos rfl) (Ev.bind (rn_ev (nought_lb _ _ _)) (Ev.congr (fun k => if_neg nb0) (Ev.bind (rn_ev (docLong_f _ _ _)) (Ev.congr (fun k => if_pos (decide_eq_true la)) (Ev.now _))))))
 have la' : ¬ decide (nl a > 4096) = true := by simpa using la
 by_cases lbb : nl b > 4096
 ·refine ⟨0, 5, pg2 ?_, ?_⟩
  ·exact Ev.congr (fun k => if_neg lb0) (Ev.bind (rn_ev (long_f _ _ _)) (Ev.congr (fun k => if_neg la') (Ev.bind (rn_ev (long_f _ _ _)) (Ev.congr (fun k => if_pos (decide_eq_true lbb)) (Ev.now _)))))
  ·unfold gnomonref08_DocQuotient.f
   exact Ev.bind ck (Ev.congr (fun k => if_pos rfl) (Ev.bind (rn_ev (nought_lb _ _ _)) (Ev.congr (fun k => if_neg nb0) (Ev.bind (rn_ev (docLong_f _ _ _)) (Ev.congr (fun k => if_neg la') (Ev.bind (rn_ev (docLong_f _ _ _)) (Ev.congr (fun k => if_pos (decide_eq_true lbb)) (Ev.now _))))))))
 have lbb' : ¬ decide (nl b > 4096) = true := by simpa using lbb
 by_cases a0 : a = 0
 ·refine ⟨0, 0, pg2 ?_, ?_⟩
  ·exact Ev.congr (fun k => if_neg lb0) (Ev.bind (rn_ev (long_f _ _ _)) (Ev.congr (fun k => if_neg la') (Ev.bind (rn_ev (long_f _ _ _)) (Ev.congr (fun k => if_neg lbb') (Ev.congr (fun k => if_pos (by rw [lb_len, a0]; rfl)) (Ev.now _))))))
  ·unfold gnomonref08_DocQuotient.f
   exact Ev.bind ck (Ev.congr (fun k => if_pos rfl) (Ev.bind (rn_ev (nought_lb _ _ _)) (Ev.congr (fun k => if_neg nb0) (Ev.bind (rn_ev (docLong_f _ _ _)) (Ev.congr (fun k => if_neg la') (Ev.bind (rn_ev (docLong_f _ _ _)) (Ev.congr (fun k => if_neg lbb') (Ev.bind (rn_ev (nought_lb _ _ _)) (Ev.congr (fun k => if_pos (decide_eq_true a0)) (Ev.now _))))))))))
 have na0 : ¬ decide (a = 0) = true := by simpa using a0
 have la0 : ¬ (((lb a).length : Nat) : Int) = 0 := by have := nl_pos a0; rw [lb_len]; omega
 have k1 := dk.low
 have k2 := dk.high
 have k3 := dk'.low
 have k4 := dk'.high
 have hml := fm_man h
 have ba := bl_le_limbs a
 have bb := bl_le_limbs b
 obtain ⟨s, hs⟩ : ∃ s, s = F.man + 3 + bl b - bl a := ⟨_, rfl⟩
 have la4 : nl a ≤ 4096 := by omega
 have lb4 : nl b ≤ 4096 := by omega
 obtain ⟨r, rl, r1, r2⟩ := quo_size h (e := x - x') a0 b0 la4 lb4 (by omega) (by omega) G ((F.qt : Nat) : Int) hs
 have hsz : s ≤ 262200 := by omega
 have QI := Lib.hid (q_ints (man := F.man) (ba := bl a) (bb := bl b) (s := s) (by omega) (by omega) (by omega) k1 k2 k3 k4 hs)
 have bx : bl (a * 2^s) = bl a + s := bl_mul a s a0
 have lx : nl (a * 2^s) ≤ 8192 := nl_nat (by omega)
 have bq : bl (a * 2^s / b) ≤ 500000 := Nat.le_trans (bl_mono (Nat.div_le_self _ _)) (by omega)
 have lr : nl (a * 2^s % b) ≤ 8192 := Nat.le_trans (nl_mono (Nat.mod_le _ _)) lx
 have hz := h.sz
 refine ⟨((pat F (n != n') r : Nat) : Int), 0, pg2 (Ev.congr (fun k => if_neg lb0) (Ev.bind (rn_ev (long_f _ _ _)) (Ev.congr (fun k => if_neg la') (Ev.bind (rn_ev (long_f _ _ _)) (Ev.congr (fun k => if_neg lbb') (Ev.congr (fun k => if_neg la0) (Ev.bind (rn_ev (bits_f (by omega))) (Ev.bind (rn_ev (bits_f (by omega))) ?_)))))))), ?_⟩
 ·rw [QI.out.1, QI.out.2.1]
  refine Ev.bind (rn_ev (shl_w (n := s) (by omega) (.inr (by omega)))) (Ev.bind (rn_ev (quo_f lx (by omega) b0)) (Ev.bind (rn_ev (sticky_ev bq lr)) (Ev.bind r1 (Ev.bind (rn_ev (signed_f h (n != n') (s := r) (by omega))) (Ev.now _)))))
 ·unfold gnomonref08_DocQuotient.f
  refine Ev.bind ck (Ev.congr (fun k => if_pos rfl) (Ev.bind (rn_ev (nought_lb _ _ _)) (Ev.congr (fun k => if_neg nb0) (Ev.bind (rn_ev (docLong_f _ _ _)) (Ev.congr (fun k => if_neg la') (Ev.bind (rn_ev (docLong_f _ _ _)) (Ev.congr (fun k => if_neg lbb') (Ev.bind (rn_ev (nought_lb _ _ _)) (Ev.congr (fun k => if_neg na0) (Ev.bind (rn_ev oF) ?_))))))))))
  rw [QI.out.2.2]
  exact Ev.bind (from_ev a (by omega)) (Ev.bind (from_ev b (by omega)) (Ev.bind r2 (Ev.bind (rn_ev (rn_signed h (n != n') rl _ _ _ _ _)) (Ev.now _))))
end Go.Proofs.YtelfmddcjlocpaaGreatDoor.RnQ
