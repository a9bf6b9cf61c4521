/- What round.Quotient and round.Root answer is what the document's answer. Plain Lean over the functions. Condition: words. -/
import Derived.Test.YtelfmddcjlocpaaGreatDoorKRoundRootedSzR
import Derived.Test.YtelfmddcjlocpaaGreatDoorKRoundRootedPxV0
set_option linter.unusedVariables false
namespace Go.Proofs.YtelfmddcjlocpaaGreatDoor.RnQ
open Go.RowKit Go.Proofs.YtelfmddcjlocpaaGreatDoorW.PrintWords Go.Proofs.YtelfmddcjlocpaaGreatDoorW.PrintMore Go.Proofs.YtelfmddcjlocpaaGreatDoor.Num Go.Proofs.YtelfmddcjlocpaaGreatDoor.PLib Go.Proofs.YtelfmddcjlocpaaGreatDoor.PRef Go.Proofs.YtelfmddcjlocpaaGreatDoor.Ref Go.Proofs.YtelfmddcjlocpaaGreatDoor.GTh Go.Proofs.YtelfmddcjlocpaaGreatDoor.Given Go.Proofs.YtelfmddcjlocpaaGreatDoor.Rp1 Go.Proofs.YtelfmddcjlocpaaGreatDoor.Rp3 Go.Proofs.YtelfmddcjlocpaaGreatDoor.Rp4 Go.Proofs.YtelfmddcjlocpaaGreatDoor.Rp5 Go.Proofs.YtelfmddcjlocpaaGreatDoor.Rp7 Go.Proofs.YtelfmddcjlocpaaGreatDoor.BinLaw Go.Proofs.YtelfmddcjlocpaaGreatDoor.Fm8 Go.Proofs.YtelfmddcjlocpaaGreatDoor.Rnd Go.Proofs.YtelfmddcjlocpaaGreatDoor.Sq Go.Proofs.YtelfmddcjlocpaaGreatDoor.Sz Go.Proofs.YtelfmddcjlocpaaGreatDoor.SzR Go.Proofs.YtelfmddcjlocpaaGreatDoor.RnL Go.Proofs.YtelfmddcjlocpaaGreatDoor.RnN Go.Proofs.YtelfmddcjlocpaaGreatDoor.GRt
theorem wds {f : Int} {F : Fmt} (h : Fm f F) : ((((F.man : Nat) : Int)) == 0 && (F.low == 0 && (((F.wd - 1 : Nat) : Int) == 0))) = false := by rcases h with ⟨_, rfl⟩ | ⟨_, rfl⟩ <;> rfl
theorem nl_nat {m : Nat} (h : bl m ≤ 524288) : nl m ≤ 8192 := by unfold nl; omega
theorem stk_bl {q r : Nat} : bl (stk q r) ≤ bl q + 1 := by
 refine bl_le_of_lt ?_
 have := bl_lt q
 rw [Nat.pow_succ]
 unfold stk
 split <;> omega
theorem stk_ne {q r : Nat} (h : q ≠ 0) : stk q r ≠ 0 := by unfold stk; omega
theorem sticky_ev {q r : Nat} (hq : bl q ≤ 500000) (hr : nl r ≤ 8192) : round_sticky.f (lb q) (lb r) = some (lb (stk q r)) := by
 have lq : nl q ≤ 8192 := nl_nat (by omega)
 have e1 : nat_Shl.f (lb q) 1 = some (lb (q * 2^1), 0) := shl_f (n := 1) lq (.inr (by omega))
 have b2 : bl (q * 2^1) ≤ bl q + 1 := by
  refine bl_le_of_lt ?_
  have := bl_lt q
  rw [Nat.pow_succ]; omega
 have l2 : nl (q * 2^1) ≤ 8192 := nl_nat (by omega)
 unfold round_sticky.f
 rw [e1, Option.bind_some]
 by_cases r0 : r = 0
 ·subst r0
  rw [if_neg (by rw [lb_nil]; decide)]
  unfold stk
  rw [if_pos rfl, Nat.add_zero, Nat.pow_one, Nat.mul_comm]
 ·have := nl_pos r0
  rw [if_pos (by rw [lb_len]; omega)]
  have w1 : nat_Word.f 1 = some (lb 1) := by
   unfold nat_Word.f
   rw [if_neg (by decide)]
   rfl
  have hb3 : bl (q * 2^1 + 1) ≤ bl q + 1 := by
   refine bl_le_of_lt ?_
   have := bl_lt q
   rw [show q * 2^1 = q * 2 by rw [Nat.pow_one], Nat.pow_succ]; omega
  have l3 : nl (q * 2^1 + 1) ≤ 8192 := nl_nat (by omega)
  have n1 : nl 1 ≤ 8192 := by rw [nl_one (by decide) (by decide)]; decide
  have ad : nat_Add.f (lb (q * 2^1)) (lb 1) = some (lb (q * 2^1 + 1), 0) := by
   unfold nat_Add.f
   rw [if_pos ⟨fmL_lb l2, fmL_lb n1, by rw [vL_lb, vL_lb]; exact l3⟩, vL_lb, vL_lb]
  rw [w1, Option.bind_some, ad, Option.bind_some]
  unfold stk
  rw [if_neg r0, Nat.pow_one, Nat.mul_comm]
theorem long_f (n : Bool) (m : Nat) (x : Int) : round_long.f n (lb m) x = some (decide (nl m > 4096)) := by
 unfold round_long.f
 rw [lb_len]
 congr 1
 exact decide_eq_decide.2 ⟨fun h => by omega, fun h => by omega⟩
theorem docLong_f (n : Bool) (m : Nat) (x : Int) : gnomonref08_long.f n (lb m) x = some (decide (nl m > 4096)) := long_f n m x
theorem nought_lb (n : Bool) (m : Nat) (x : Int) : gnomonref05_Nought.f n (lb m) x = some (decide (m = 0)) := by
 unfold gnomonref05_Nought.f
 rw [lb_len]
 congr 1
 by_cases c : m = 0
 ·subst c; rfl
 ·have := nl_pos c
  rw [decide_eq_false c]
  exact beq_eq_false_iff_ne.2 (by omega)
theorem check_ok {f : Int} {F : Fmt} (h : Fm f F) {n n' : Bool} {l l' : List Int} {x x' : Int} (c : dyB n l x = true) (c' : dyB n' l' x' = true) : Ev (fun k => gnomonref08_check.f k f n l x n' l' x') 0 := by
 obtain ⟨G, oF⟩ := rn_of h
 have f1 := docForm_ev n l x
 have f2 := docForm_ev n' l' x'
 rw [c] at f1
 rw [c'] at f2
 unfold gnomonref08_check.f
 exact Ev.bind (rn_ev oF) (Ev.congr (fun k => if_pos rfl) (Ev.bind f1 (Ev.congr (fun k => if_pos rfl) (Ev.bind f2 (Ev.congr (fun k => if_pos rfl) (Ev.now _))))))
theorem check_bad {f : Int} {F : Fmt} (h : Fm f F) {n n' : Bool} {l l' : List Int} {x x' : Int} (c : ¬ (dyB n l x = true ∧ dyB n' l' x' = true)) : Ev (fun k => gnomonref08_check.f k f n l x n' l' x') 2 := by
 obtain ⟨G, oF⟩ := rn_of h
 have f1 := docForm_ev n l x
 have f2 := docForm_ev n' l' x'
 unfold gnomonref08_check.f
 refine Ev.bind (rn_ev oF) (Ev.congr (fun k => if_pos rfl) (Ev.bind f1 ?_))
 by_cases d : dyB n l x = true
 ·refine Ev.congr (fun k => if_pos d) (Ev.bind f2 (Ev.congr (fun k => if_neg fun d' => c ⟨d, d'⟩) (Ev.now _)))
 ·exact Ev.congr (fun k => if_neg d) (Ev.now _)
theorem check_no {f : Int} (h : f ≠ 32) (h' : f ≠ 64) {n n' : Bool} {l l' : List Int} {x x' : Int} : Ev (fun k => gnomonref08_check.f k f n l x n' l' x') 1 := by
 unfold gnomonref08_check.f
 exact Ev.bind (rn_ev (rn_no h h')) (Ev.congr (fun k => if_neg (by decide)) (Ev.now _))
theorem shl_w {m n : Nat} (h : nl m ≤ 8192) (hn : m = 0 ∨ bl m + n ≤ 524288) : nat_Shl.f (lb m) (n : Int) = some (lb (m * 2^n), 0) := shl_f h hn
theorem root_size {f : Int} {F : Fmt} (h : Fm f F) {a : Nat} {e t : Int} (a0 : a ≠ 0) (la : nl a ≤ 4096) (e1 : -1048576 ≤ e) (e2 : e ≤ 1048576) (G Q : Int) {s : Nat} (hs : 2 * F.man + 6 ≤ bl a + s) (hs2 : s ≤ 2 * F.man + 7) (ht : e - (s : Int) = 2 * t) :
  ∃ r : Nat, r ≤ F.inf ∧ Ev (fun k => round_widths_size.f k (F.man : Nat) F.low ((F.wd - 1 : Nat) : Int) (lb (stk (isq (a * 2^s)) (a * 2^s - isq (a * 2^s) * isq (a * 2^s)))) (t - 1)) (r : Int) ∧ Ev (fun k => gnomonref08_Size.f k ((F.sg : Nat) : Int) ((F.man : Nat) : Int) F.low G ((F.inf : Nat) : Int) Q (dg a) (dg 1) e true) (r : Int) := by
 have hl := sz_low h
 have hml := fm_man h
 have ba := bl_le_limbs a
 have bx : bl (a * 2^s) = bl a + s := bl_mul a s a0
 obtain ⟨q1, q2⟩ := isq_spec (a * 2^s)
 have x0 : a * 2^s ≠ 0 := Nat.mul_ne_zero a0 (Nat.ne_of_gt (Nat.two_pow_pos s))
 have h2 : 2^(bl (a * 2^s) - 1) ≤ a * 2^s := bl_ge x0
 have bxx : bl (a * 2^s) ≤ 262400 := by omega
 obtain ⟨x, hx⟩ : ∃ x, x = a * 2^s := ⟨_, rfl⟩
 rw [← hx] at bx q1 q2 h2 bxx ⊢
 obtain ⟨q, hq⟩ : ∃ q, q = isq x := ⟨_, rfl⟩
 rw [← hq] at q1 q2 ⊢
 have hq4 : 2^(F.man + 2) ≤ q := by
  rcases Nat.lt_or_ge q (2^(F.man + 2)) with c | c
  ·exfalso
   have h3 := Nat.mul_self_le_mul_self (show q + 1 ≤ 2^(F.man + 2) from c)
   rw [← Nat.pow_add] at h3
   have h4 := Nat.pow_le_pow_right (show 0 < 2 by decide) (show F.man + 2 + (F.man + 2) ≤ bl x - 1 by omega)
   exact absurd (Nat.le_trans h4 h2) (Nat.not_le_of_lt (Nat.lt_of_lt_of_le q2 h3))
  ·exact c
 have q0 : q ≠ 0 := Nat.ne_of_gt (Nat.lt_of_lt_of_le (Nat.two_pow_pos _) hq4)
 have bq : bl q ≤ bl x := bl_mono (Nat.le_trans (Nat.le_mul_self q) q1)
 have bs : bl (stk q (x - q * q)) ≤ bl x + 1 := Nat.le_trans stk_bl (Nat.succ_le_succ bq)
 have ls : nl (stk q (x - q * q)) ≤ 8192 := nl_nat (Nat.le_trans bs (Nat.le_trans (Nat.succ_le_succ bxx) (by decide)))
 obtain ⟨E, hE⟩ : ∃ E, E = min (t - 1) (F.low - 1) := ⟨_, rfl⟩
 have E1 : E ≤ t - 1 ∧ E ≤ F.low - 1 ∧ -1100000 ≤ E ∧ t ≤ 1048576 ∧ -1048576 - 113 ≤ 2 * t ∧ 2 * E ≤ e ∧ E ≤ F.low := by clear h2 q1 q2 hq4 bs ls; omega
 have sw := size_wide h (m := stk q (x - q * q)) (x := t - 1) (E := E) (stk_ne q0) ls ⟨by have := E1.2.2.2.2.1; omega, by have := E1.2.2.2.1; omega⟩ E1.1 E1.2.2.2.2.2.2
 have ba' : bl a ≤ 1000000 := by clear h2 q1 q2 hq4 bs ls sw; omega
 obtain ⟨r, nr, rv⟩ := SzR.size_evr h (A := a) (B := 1) (e := e) (E := E) ⟨a0, by decide, ba', by decide, E1.2.2.2.2.2.1, Int.le_trans e2 (by decide), E1.2.2.1, E1.2.1⟩ G Q
 obtain ⟨K, hK⟩ : ∃ K, K = (t - 1 - E).toNat := ⟨_, rfl⟩
 obtain ⟨g, hg⟩ : ∃ g, g = (F.low - E).toNat := ⟨_, rfl⟩
 have n2 := stk_root h (x := x) (q := q) (K := K) (g := g) q1 q2 hq4 (rsz_nst h g _)
 have eK : (e - 2 * E).toNat = s + ((K + 1) + (K + 1)) := by
  have := E1.1
  clear h2 q1 q2 hq4 bs ls sw nr n2
  omega
 have e3 : qn2 a e E = x * (2^(K + 1) * 2^(K + 1)) := by
  unfold qn2
  rw [eK, Nat.pow_add 2 s, Nat.pow_add 2 (K + 1), ← Nat.mul_assoc, hx]
 have e4 : qd2 F 1 E = 2^g * 2^g := by unfold qd2; rw [hg, Nat.one_mul]
 rw [e3, e4] at nr
 have eq := nr_uniq h (Nat.mul_pos (Nat.two_pow_pos g) (Nat.two_pow_pos g)) n2 nr
 rw [← hK, ← hg, eq] at sw
 exact ⟨r, nr.le, sw, rv⟩
theorem root_f {x : Nat} (hx : nl x ≤ 8000) : natdiv_Root.f (lb x) = some (lb (isq x), lb (x - isq x * isq x), 0) := by
 unfold natdiv_Root.f
 rw [if_pos ⟨fmL_lb (by omega), by rw [lb_len]; exact hx⟩, vL_lb]
theorem r_ints {man ba s0 : Nat} {x : Int} (hm : man ≤ 53) (ha : ba ≤ 262144) (k1 : -1048576 ≤ x) (k2 : x ≤ 1048576) (hs : s0 = 2 * man + 6 - ba) :
  mx 0 (wrap64 ((wrap64 ((wrap64 (2 * (man : Int))) + 6)) - (ba : Int))) = (s0 : Int) ∧ wrap64 (x - (s0 : Int)) = x - (s0 : Int) ∧ wrap64 ((s0 : Int) + 1) = ((s0 + 1 : Nat) : Int) ∧ wrap64 (x - ((s0 + 1 : Nat) : Int)) = x - ((s0 + 1 : Nat) : Int) := by
 have e1 : wrap64 (2 * (man : Int)) = 2 * (man : Int) := w64 (by omega) (by omega)
 have e2 : wrap64 (2 * (man : Int) + 6) = 2 * (man : Int) + 6 := by clear e1; exact w64 (by omega) (by omega)
 have e3 : wrap64 (2 * (man : Int) + 6 - (ba : Int)) = 2 * (man : Int) + 6 - (ba : Int) := by clear e1 e2; exact w64 (by omega) (by omega)
 refine ⟨?_, ?_, ?_, ?_⟩
 ·rw [e1, e2, e3]
  clear e1 e2 e3
  unfold mx
  split <;> omega
 ·clear e1 e2 e3; exact w64 (by omega) (by omega)
 ·clear e1 e2 e3; rw [w64 (by omega) (by omega)]; omega
 ·clear e1 e2 e3; exact w64 (by omega) (by omega)
theorem r_half {x t : Int} {s : Nat} (h : x - (s : Int) = 2 * t) (k1 : -1048576 ≤ x) (k2 : x ≤ 1048576) (hs : s ≤ 200) : wrap64 ((wrap64 (Int.tdiv (x - (s : Int)) 2)) - 1) = t - 1 := by
 have e : Int.tdiv (x - (s : Int)) 2 = t := by rw [h, Int.mul_comm]; exact Int.mul_tdiv_cancel t (by decide)
 rw [e, w64 (x := t) (by omega) (by omega), w64 (by omega) (by omega)]
theorem r_odd {y : Int} : (Int.tmod y 2 = 0 ∧ ∃ t, y = 2 * t) ∨ (¬ Int.tmod y 2 = 0 ∧ ∃ t, y - 1 = 2 * t) := by
 by_cases c : Int.tmod y 2 = 0
 ·exact .inl ⟨c, Int.tdiv y 2, by have := Int.mul_tdiv_add_tmod y 2; omega⟩
 ·refine .inr ⟨c, ?_⟩
  have h2 : ¬ y % 2 = 0 := fun e => c (by rw [Int.tmod_eq_emod]; split <;> omega)
  exact ⟨(y - 1) / 2, by omega⟩
theorem rn_root (f : Int) (n : Bool) (l : List Int) (hw : Wf l) (x : Int) : ∃ r e : Int, Ev (fun k => round_Root.f k f n l x) (r, e) ∧ Ev (fun k => gnomonref08_DocRoot.f k f n l x) (r, e) := by
 by_cases hf : f = 32 ∨ f = 64
 rotate_left
 ·have n1 : f ≠ 32 := fun c => hf (.inl c)
  have n2 : f ≠ 64 := fun c => hf (.inr c)
  refine ⟨0, 1, ?_, ?_⟩
  ·unfold round_Root.f
   exact Ev.bind (rn_ev (of_no n1 n2)) (Ev.congr (fun k => if_pos rfl) (Ev.now _))
  ·unfold gnomonref08_DocRoot.f
   exact Ev.bind (check_no n1 n2) (Ev.congr (fun k => if_neg (by decide)) (Ev.now _))
 obtain ⟨F, h⟩ : ∃ F, Fm f F := by
  rcases hf with rfl | rfl
  ·exact ⟨fS, tS⟩
  ·exact ⟨fD, tD⟩
 obtain ⟨G, oF⟩ := rn_of h
 have f1 := form_ev n l x
 by_cases c : dyB n l x = true
 rotate_left
 ·rw [Bool.not_eq_true] at c
  rw [c] at f1
  refine ⟨0, 2, ?_, ?_⟩
  ·unfold round_Root.f
   exact Ev.bind (rn_ev (of_f h)) (Ev.congr (fun k => if_neg (by rw [wds h]; decide)) (Ev.bind f1 (Ev.congr (fun k => if_neg (by decide)) (Ev.now _))))
  ·unfold gnomonref08_DocRoot.f
   exact Ev.bind (check_bad h (fun q => by rw [q.1] at c; cases c)) (Ev.congr (fun k => if_neg (by decide)) (Ev.now _))
 rw [c] at f1
 have ck := check_ok h c c
 obtain ⟨a, rfl, dk⟩ := dk_of hw c
 cases hn : n
 rotate_left
 ·subst hn
  refine ⟨0, 3, ?_, ?_⟩
  ·unfold round_Root.f
   exact Ev.bind (rn_ev (of_f h)) (Ev.congr (fun k => if_neg (by rw [wds h]; decide)) (Ev.bind f1 (Ev.congr (fun k => if_pos rfl) (Ev.congr (fun k => if_pos rfl) (Ev.now _)))))
  ·unfold gnomonref08_DocRoot.f
   exact Ev.bind ck (Ev.congr (fun k => if_pos rfl) (Ev.congr (fun k => if_pos rfl) (Ev.now _)))
 subst hn
 have nf : ¬ false = true := by decide
 by_cases la : nl a > 4096
 ·refine ⟨0, 5, ?_, ?_⟩
  ·unfold round_Root.f
   exact Ev.bind (rn_ev (of_f h)) (Ev.congr (fun k => if_neg (by rw [wds h]; decide)) (Ev.bind f1 (Ev.congr (fun k => if_pos rfl) (Ev.congr (fun k => if_neg nf) (Ev.bind (rn_ev (long_f _ _ _)) (Ev.congr (fun k => if_pos (decide_eq_true la)) (Ev.now _)))))))
  ·unfold gnomonref08_DocRoot.f
   exact Ev.bind ck (Ev.congr (fun k => if_pos rfl) (Ev.congr (fun k => if_neg nf) (Ev.bind (rn_ev (docLong_f _ _ _)) (Ev.congr (fun k => if_pos (decide_eq_true la)) (Ev.now _)))))
 have la' : ¬ decide (nl a > 4096) = true := by simpa using la
 by_cases a0 : a = 0
 ·refine ⟨0, 0, ?_, ?_⟩
  ·unfold round_Root.f
   exact Ev.bind (rn_ev (of_f h)) (Ev.congr (fun k => if_neg (by rw [wds h]; decide)) (Ev.bind f1 (Ev.congr (fun k => if_pos rfl) (Ev.congr (fun k => if_neg nf) (Ev.bind (rn_ev (long_f _ _ _)) (Ev.congr (fun k => if_neg la') (Ev.congr (fun k => if_pos (by rw [lb_len, a0]; rfl)) (Ev.now _))))))))
  ·unfold gnomonref08_DocRoot.f
   exact Ev.bind ck (Ev.congr (fun k => if_pos rfl) (Ev.congr (fun k => if_neg nf) (Ev.bind (rn_ev (docLong_f _ _ _)) (Ev.congr (fun k => if_neg la') (Ev.bind (rn_ev (nought_lb _ _ _)) (Ev.congr (fun k => if_pos (decide_eq_true a0)) (Ev.now _)))))))
 have na0 : ¬ decide (a = 0) = true := by simpa using a0
 have la0 : ¬ (((lb a).length : Nat) : Int) = 0 := by have := nl_pos a0; rw [lb_len]; omega
 have la4 : nl a ≤ 4096 := by omega
 have l81 : nl a ≤ 8192 := by omega
 have k1 := dk.low
 have k2 := dk.high
 have hml := fm_man h
 have man53 : F.man ≤ 53 := by omega
 have ba := bl_le_limbs a
 have ba2 : bl a ≤ 262144 := by omega
 obtain ⟨s0, hs0⟩ : ∃ s0, s0 = 2 * F.man + 6 - bl a := ⟨_, rfl⟩
 have RI := Lib.hid (r_ints (man := F.man) (ba := bl a) (x := x) man53 ba2 k1 k2 hs0)
 have fin : ∀ (s : Nat) (t : Int), 2 * F.man + 6 ≤ bl a + s → s ≤ 2 * F.man + 7 → x - (s : Int) = 2 * t →
   ∃ r : Nat, Ev (fun k => (nat_Shl.f (lb a) (s : Int)).bind fun bt5 => ((natdiv_Root.f bt5.1).bind fun bt6 => ((round_sticky.f bt6.1 bt6.2.1).bind fun t7 => ((round_widths_size.f k ((F.man : Nat) : Int) F.low ((F.wd - 1 : Nat) : Int) t7 (wrap64 ((wrap64 (Int.tdiv (x - (s : Int)) 2)) - 1))).bind fun t8 => (some (t8, (0 : Int))))))) ((r : Int), 0) ∧ Ev (fun k => gnomonref08_DocRoot.f k f false (lb a) x) ((r : Int), 0) := by
  intro s t h1 h2 h3
  obtain ⟨r, rl, r1, r2⟩ := root_size h a0 la4 k1 k2 G ((F.qt : Nat) : Int) h1 h2 h3
  have bx : bl (a * 2^s) = bl a + s := bl_mul a s a0
  have bx2 : bl (a * 2^s) ≤ 262400 := by omega
  have lx : nl (a * 2^s) ≤ 8000 := by unfold nl; omega
  have hF := isq_spec (a * 2^s)
  have bq : bl (isq (a * 2^s)) ≤ 500000 := Nat.le_trans (bl_mono (Nat.le_trans (Nat.le_mul_self _) hF.1)) (Nat.le_trans bx2 (by decide))
  have lr : nl (a * 2^s - isq (a * 2^s) * isq (a * 2^s)) ≤ 8192 := Nat.le_trans (nl_mono (Nat.sub_le _ _)) (Nat.le_trans lx (by decide))
  have bs : bl a + s ≤ 524288 := by rw [← bx]; exact Nat.le_trans bx2 (by decide)
  refine ⟨r, ?_, ?_⟩
  ·rw [r_half h3 k1 k2 (by omega)]
   exact Ev.bind (rn_ev (shl_w (n := s) l81 (.inr bs))) (Ev.bind (rn_ev (root_f lx)) (Ev.bind (rn_ev (sticky_ev bq lr)) (Ev.bind r1 (Ev.now _))))
  ·unfold gnomonref08_DocRoot.f
   exact Ev.bind ck (Ev.congr (fun k => if_pos rfl) (Ev.congr (fun k => if_neg nf) (Ev.bind (rn_ev (docLong_f _ _ _)) (Ev.congr (fun k => if_neg la') (Ev.bind (rn_ev (nought_lb _ _ _)) (Ev.congr (fun k => if_neg na0) (Ev.bind (rn_ev oF) (Ev.bind (from_ev a l81) (Ev.bind (word_ev 1 (by decide) (by decide)) (Ev.bind r2 (Ev.now _)))))))))))
 rcases r_odd (y := x - (s0 : Int)) with ⟨d, t, ht⟩ | ⟨d, t, ht⟩
 ·obtain ⟨r, p1, p2⟩ := fin s0 t (by omega) (by omega) ht
  refine ⟨(r : Int), 0, ?_, p2⟩
  unfold round_Root.f
  refine Ev.bind (rn_ev (of_f h)) (Ev.congr (fun k => if_neg (by rw [wds h]; decide)) (Ev.bind f1 (Ev.congr (fun k => if_pos rfl) (Ev.congr (fun k => if_neg nf) (Ev.bind (rn_ev (long_f _ _ _)) (Ev.congr (fun k => if_neg la') (Ev.congr (fun k => if_neg la0) (Ev.bind (rn_ev (bits_f l81)) ?_))))))))
  rw [RI.out.1, RI.out.2.1]
  exact Ev.congr (fun k => if_pos d) p1
 ·obtain ⟨r, p1, p2⟩ := fin (s0 + 1) t (by omega) (by omega) (by omega)
  refine ⟨(r : Int), 0, ?_, p2⟩
  unfold round_Root.f
  refine Ev.bind (rn_ev (of_f h)) (Ev.congr (fun k => if_neg (by rw [wds h]; decide)) (Ev.bind f1 (Ev.congr (fun k => if_pos rfl) (Ev.congr (fun k => if_neg nf) (Ev.bind (rn_ev (long_f _ _ _)) (Ev.congr (fun k => if_neg la') (Ev.congr (fun k => if_neg la0) (Ev.bind (rn_ev (bits_f l81)) ?_))))))))
  rw [RI.out.1, RI.out.2.1, RI.out.2.2.1, RI.out.2.2.2]
  exact Ev.congr (fun k => if_neg d) p1
end Go.Proofs.YtelfmddcjlocpaaGreatDoor.RnQ
