/- Quotients and roots of layer 9's numbers: plain Lean over the functions. Conditions: sizes of one limb; formats. Quotients of layer 9's numbers: plain Lean over the functions. Conditions: sizes of one limb; formats. -/
import Derived.Test.YtokoadgahflafaaGreatDoorKSoftMachineSf3
section
set_option linter.unusedVariables false
namespace Go.Proofs.YtokoadgahflafaaGreatDoor.Sf4
open Go.RowKit Go.Proofs.YtokoadgahflafaaGreatDoorW.PrintWords Go.Proofs.YtokoadgahflafaaGreatDoorW.PrintMore Go.Proofs.YtokoadgahflafaaGreatDoor.Num Go.Proofs.YtokoadgahflafaaGreatDoor.PLib Go.Proofs.YtokoadgahflafaaGreatDoor.Ref Go.Proofs.YtokoadgahflafaaGreatDoor.GTh Go.Proofs.YtokoadgahflafaaGreatDoor.Given Go.Proofs.YtokoadgahflafaaGreatDoor.Rp1 Go.Proofs.YtokoadgahflafaaGreatDoor.Rp2 Go.Proofs.YtokoadgahflafaaGreatDoor.Rp3 Go.Proofs.YtokoadgahflafaaGreatDoor.Rp4 Go.Proofs.YtokoadgahflafaaGreatDoor.Rp5 Go.Proofs.YtokoadgahflafaaGreatDoor.Rp7 Go.Proofs.YtokoadgahflafaaGreatDoor.BinLaw Go.Proofs.YtokoadgahflafaaGreatDoor.Fm8 Go.Proofs.YtokoadgahflafaaGreatDoor.Rnd Go.Proofs.YtokoadgahflafaaGreatDoor.Sq Go.Proofs.YtokoadgahflafaaGreatDoor.Px Go.Proofs.YtokoadgahflafaaGreatDoor.Sf1 Go.Proofs.YtokoadgahflafaaGreatDoor.Sf2 Go.Proofs.YtokoadgahflafaaGreatDoor.Sf3
theorem rd_one {b : Nat} (h0 : b ≠ 0) (hb : b < 18446744073709551616) : rd (lb b) 0 = (b : Int) := by
 have := lb_rd (x := b) (j := 0) (nl_pos h0)
 rw [show (0 : Int) = ((0 : Nat) : Int) from rfl, this]
 unfold dw
 rw [pw_zero, Nat.div_one, Nat.mod_eq_of_lt hb]
theorem natForm_t {m : Nat} (h : nl m ≤ 8192) : nat_Form.f (lb m) = some true := by rw [natForm_f, nfm_lb h]
theorem quoRem_f {a b : Nat} (ha : nl a ≤ 8192) (h0 : b ≠ 0) (hb : b < 18446744073709551616) (hle : b ≤ a) : natdiv_QuoRem.f (lb a) (lb b) = some (lb (a / b), lb (a % b), 0) := by
 have l1 := nl_one h0 hb
 have hr : a % b < 18446744073709551616 := Nat.lt_trans (Nat.mod_lt _ (by omega)) hb
 have c : ¬ cmI a b < 0 := by
  unfold cmI
  rw [if_neg (by omega)]
  split <;> omega
 unfold natdiv_QuoRem.f
 rw [natForm_t ha, natForm_t (show nl b ≤ 8192 by omega)]
 simp only [Option.bind_some, if_true]
 rw [if_neg (by rw [lb_len, l1]; decide), cmp_f (by omega) (by omega)]
 simp only [Option.bind_some]
 rw [if_neg c, if_pos (by rw [lb_len, l1]; rfl), if_pos (by rw [lb_len, l1]; decide), rd_one h0 hb]
 unfold nat_DivWord.f
 rw [if_pos ⟨fmL_lb ha, by omega, by omega⟩, vL_lb, Int.toNat_natCast]
 simp only [Option.bind_some]
 rw [word_f _ hr]
 rfl
theorem newton_ge {a r x : Nat} (h1 : r * r ≤ a) (x0 : 0 < x) : r ≤ (x + a / x) / 2 := by
 by_cases c : r ≤ (x + a / x) / 2
 ·exact c
 ·exfalso
  have c1 : x + a / x < 2 * r := by omega
  obtain ⟨t, ht⟩ : ∃ t, 2 * r = x + t := ⟨2 * r - x, by generalize a / x = q at *; omega⟩
  have c2 : a / x < t := by omega
  have c3 : a < t * x := (Nat.div_lt_iff_lt_mul x0).1 c2
  clear c c1 c2
  have c4 : t * x ≤ r * r := by
   rcases Nat.le_total t r with q | q
   ·obtain ⟨d, rfl⟩ : ∃ d, r = t + d := ⟨r - t, by omega⟩
    obtain rfl : x = t + d + d := by omega
    have e : (t + d) * (t + d) = t * (t + d + d) + d * d := by
     simp only [Nat.mul_add, Nat.add_mul]; rw [Nat.mul_comm d t]; omega
    omega
   ·obtain ⟨d, rfl⟩ : ∃ d, t = r + d := ⟨t - r, by omega⟩
    obtain ⟨e, rfl⟩ : ∃ e, r = e + d := ⟨r - d, by omega⟩
    obtain rfl : x = e := by omega
    have e : (x + d) * (x + d) = (x + d + d) * x + d * d := by
     simp only [Nat.mul_add, Nat.add_mul]; rw [Nat.mul_comm d x]; omega
    omega
  omega
theorem newton_end {a r x : Nat} (h1 : r ≤ x) (h2 : a < (r + 1) * (r + 1)) (x0 : 0 < x) (h : x ≤ (x + a / x) / 2) : x = r := by
 have c1 : x ≤ a / x := by omega
 have c2 : x * x ≤ a := by rwa [Nat.le_div_iff_mul_le x0] at c1
 have c3 : x * x < (r + 1) * (r + 1) := by omega
 have c4 : x < r + 1 := by
  refine Nat.lt_of_not_le fun q => ?_
  have := Nat.mul_self_le_mul_self q
  omega
 omega
theorem step_ev {a x : Nat} (ha : nl a ≤ 8192) (x0 : x ≠ 0) (hx : x < 18446744073709551616) (hle : x ≤ a) (hq : nl (x + a / x) ≤ 8192) {β : Type} {G : Int → List Int → Nat → Option β} {r : β} (h : Ev (fun k => G (cmI ((x + a / x) / 2) x) (lb ((x + a / x) / 2)) k) r) :
  Ev (fun k => (natdiv_QuoRem.f (lb a) (lb x)).bind fun bt1 => ((nat_Add.f (lb x) bt1.1).bind fun bt2 => ((nat_Shr.f bt2.1 1).bind fun bt3 => ((nat_Cmp.f bt3.1 (lb x)).bind fun t4 => G t4 bt3.1 k)))) r := by
 have l1 := nl_one x0 hx
 have lq : nl (a / x) ≤ 8192 := Nat.le_trans (nl_mono (Nat.div_le_self _ _)) ha
 have ly : nl ((x + a / x) / 2) ≤ 8192 := Nat.le_trans (nl_mono (Nat.div_le_self _ _)) hq
 have e2 : nat_Shr.f (lb (x + a / x)) 1 = some (lb ((x + a / x) / 2), 0) := by
  have := shr_f (n := 1) hq (by decide)
  rw [Nat.pow_one] at this
  exact this
 refine Ev.bind (ev_eq (quoRem_f ha x0 hx hle)) ?_
 refine Ev.bind (ev_eq (add_f (by omega) lq hq)) ?_
 refine Ev.bind (ev_eq e2) ?_
 exact Ev.bind (ev_eq (cmp_f (by omega) (by omega))) h
theorem cmI_ge {y x : Nat} (h : x ≤ y) : cmI y x ≥ 0 := by
 unfold cmI
 rw [if_neg (by omega)]
 split <;> decide
theorem sum_le {a x : Nat} (x0 : x ≠ 0) (hle : x ≤ a) : x + a / x ≤ 2 * a := by
 have := Nat.div_le_self a x
 omega
theorem l0_ev {a r : Nat} (ha : bl a ≤ 500000) (h1 : r * r ≤ a) (h2 : a < (r + 1) * (r + 1)) (r0 : r ≠ 0) : ∀ (N x : Nat), x ≤ N → r ≤ x → x ≤ a → x < 18446744073709551616 → Ev (fun k => natdiv_root.l0 k (lb a) (lb x)) (lb r) := by
 intro N
 induction N with
 | zero => intro x h _ _ _; omega
 | succ N ih =>
  intro x hN hr hle hx
  have hq : nl (x + a / x) ≤ 8192 := nl_of_bl (Nat.le_trans (bl_mono (sum_le (by omega) hle)) (by
   have := bl_mul2 (show bl 2 ≤ 2 by decide) ha
   omega))
  refine Ev.succ ?_
  simp only [natdiv_root.l0]
  refine step_ev (G := fun t l k => if t ≥ 0 then some (lb x) else natdiv_root.l0 k (lb a) l) (nl_of_bl (by omega)) (by omega) hx hle hq ?_
  by_cases c : x ≤ (x + a / x) / 2
  ·obtain rfl := newton_end hr h2 (by omega) c
   exact Ev.congr (fun k => if_pos (cmI_ge c)) (Ev.now _)
  ·have c2 : cmI ((x + a / x) / 2) x = -1 := if_pos (by omega)
   rw [c2]
   refine Ev.congr (fun k => if_neg (by decide)) ?_
   have := newton_ge (x := x) h1 (by omega)
   exact ih _ (by omega) this (by omega) (by omega)
theorem sticky_f {q r : Nat} (hq : bl q ≤ 500000) (hr : nl r ≤ 8192) : round_sticky.f (lb q) (lb r) = some (lb (stk q r)) := by
 have lq : nl q ≤ 8192 := nl_of_bl (by omega)
 have e1 : nat_Shl.f (lb q) 1 = some (lb (q * 2), 0) := by
  have := shl_f (m := q) (n := 1) lq (.inr (by omega))
  rwa [Nat.pow_one] at this
 have b2 : bl (q * 2) ≤ 500002 := by
  have := bl_mul2 hq (show bl 2 ≤ 2 by decide)
  exact this
 unfold round_sticky.f
 rw [e1]
 simp only [Option.bind_some]
 by_cases c : r = 0
 ·rw [if_neg (by rw [lb_len, c]; decide)]
  unfold stk
  rw [if_pos c, Nat.add_zero, Nat.mul_comm]
 ·have := nl_pos c
  have b3 : bl (q * 2 + 1) ≤ 500003 := bl_add b2 (show bl 1 ≤ 500002 by decide)
  have wf : nat_Word.f 1 = some (lb 1) := word_f 1 (by decide)
  rw [if_pos (by rw [lb_len]; omega), wf]
  simp only [Option.bind_some]
  rw [add_f (nl_of_bl (by omega)) (by decide) (nl_of_bl (by omega))]
  simp only [Option.bind_some]
  unfold stk
  rw [if_neg c, Nat.mul_comm]
end Go.Proofs.YtokoadgahflafaaGreatDoor.Sf4
end
section
set_option linter.unusedVariables false
namespace Go.Proofs.YtokoadgahflafaaGreatDoor.Sf5
open Go.RowKit Go.Proofs.YtokoadgahflafaaGreatDoorW.PrintWords Go.Proofs.YtokoadgahflafaaGreatDoorW.PrintMore Go.Proofs.YtokoadgahflafaaGreatDoor.Num Go.Proofs.YtokoadgahflafaaGreatDoor.PLib Go.Proofs.YtokoadgahflafaaGreatDoor.Ref Go.Proofs.YtokoadgahflafaaGreatDoor.GTh Go.Proofs.YtokoadgahflafaaGreatDoor.Given Go.Proofs.YtokoadgahflafaaGreatDoor.Rp1 Go.Proofs.YtokoadgahflafaaGreatDoor.Rp2 Go.Proofs.YtokoadgahflafaaGreatDoor.Rp3 Go.Proofs.YtokoadgahflafaaGreatDoor.Rp4 Go.Proofs.YtokoadgahflafaaGreatDoor.Rp5 Go.Proofs.YtokoadgahflafaaGreatDoor.Rp7 Go.Proofs.YtokoadgahflafaaGreatDoor.BinLaw Go.Proofs.YtokoadgahflafaaGreatDoor.Fm8 Go.Proofs.YtokoadgahflafaaGreatDoor.Rnd Go.Proofs.YtokoadgahflafaaGreatDoor.Sq Go.Proofs.YtokoadgahflafaaGreatDoor.Px Go.Proofs.YtokoadgahflafaaGreatDoor.Sf1 Go.Proofs.YtokoadgahflafaaGreatDoor.Sf2 Go.Proofs.YtokoadgahflafaaGreatDoor.Sf3 Go.Proofs.YtokoadgahflafaaGreatDoor.Sf4
theorem mx_max (a b : Int) : mx a b = max a b := by unfold mx; split <;> omega
theorem nq_cross {F : Fmt} {n d n' d' s : Nat} (hd : 0 < d) (hd' : 0 < d') (e : n * d' = n' * d) (h : Nq F n d s) : Nq F n' d' s := by
 have h2 := nq_scaled hd' h
 rw [e, Nat.mul_comm d d'] at h2
 exact nq_scale hd h2
theorem fm_ne {f : Int} {F : Fmt} (h : Fm f F) : ((((F.man : Nat) : Int)) == 0 && (F.low == 0 && (((F.wd - 1 : Nat) : Int) == 0))) = false := by rcases h with ⟨_, rfl⟩ | ⟨_, rfl⟩ <;> rfl
theorem long_f (n : Bool) {m : Nat} (x : Int) (h : nl m ≤ 4096) : round_long.f n (lb m) x = some false := by
 unfold round_long.f
 rw [lb_len, decide_eq_false (by omega)]
theorem quot_ev {f : Int} {F : Fmt} (h : Fm f F) {E : Int} {n n' : Bool} {m m' : Nat} {x x' V W : Int} (d : Dy E n m x V) (d' : Dy E n' m' x' W) (v0 : V ≠ 0) (w0 : W ≠ 0) (hm : bl m ≤ 53) (hm' : bl m' ≤ 53) (hV : bl V.natAbs ≤ 3000) (hW : bl W.natAbs ≤ 3000) (hE : -5000 ≤ E) (hE0 : E ≤ 0) :
  ∃ s, Nq F (V.natAbs * 2^(-F.low).toNat) W.natAbs s ∧ Ev (fun k => round_Quotient.f k f n (lb m) x n' (lb m') x') (((pat F (decide (V < 0) != decide (W < 0)) s : Nat) : Int), 0) := by
 have m0 : m ≠ 0 := fun e => v0 (d.zero.1 e)
 have m0' : m' ≠ 0 := fun e => w0 (d'.zero.1 e)
 have b1 := d.bl m0
 have b2 := d'.bl m0'
 have x1 := d.le
 have x2 := d'.le
 have hl := low_rng h
 have hfm := fm_man h
 have p1 := bl_pos m0
 have p2 := bl_pos m0'
 have lt' : m' < 18446744073709551616 := by
  have q1 := bl_lt m'
  have q2 : 2^(bl m') ≤ 2^64 := Nat.pow_le_pow_right (by decide) (by omega)
  have q3 : (2 : Nat)^64 = 18446744073709551616 := by decide
  omega
 obtain ⟨S, hS⟩ : ∃ S : Nat, S = F.man + 3 + bl m' - bl m := ⟨_, rfl⟩
 have s1 : mx 0 (wrap64 ((wrap64 ((wrap64 (((F.man : Nat) : Int) + 3)) + ((bl m' : Nat) : Int))) - ((bl m : Nat) : Int))) = ((S : Nat) : Int) := by
  rw [mx_max, w64 (x := ((F.man : Nat) : Int) + 3) (by omega) (by omega), w64 (x := ((F.man : Nat) : Int) + 3 + _) (by omega) (by omega), w64 (by omega) (by omega)]
  omega
 obtain ⟨N, hN⟩ : ∃ N, N = m * 2^S := ⟨_, rfl⟩
 have bN : bl N = bl m + S := by rw [hN, bl_mul _ _ m0]
 have N0 : N ≠ 0 := by rw [hN]; exact Nat.mul_ne_zero m0 (Nat.pos_iff_ne_zero.1 (Nat.two_pow_pos S))
 have lN : nl N ≤ 8192 := nl_of_bl (by rw [bN]; clear hN N0 s1 bN; omega)
 have HN := Lib.hid hN
 have HS1 := Lib.hid s1
 clear hN s1
 have hq : 2^(F.man + 2) ≤ N / m' := by
  rw [Nat.le_div_iff_mul_le (by omega)]
  have q1 := bl_lt m'
  have q2 := bl_ge N0
  have q3 : 2^(F.man + 2) * m' ≤ 2^(F.man + 2) * 2^(bl m') := Nat.mul_le_mul_left _ (by omega)
  rw [← Nat.pow_add] at q3
  have q4 : 2^(F.man + 2 + bl m') ≤ 2^(bl N - 1) := Nat.pow_le_pow_right (by decide) (by omega)
  omega
 have hle : m' ≤ N := by
  refine Nat.le_of_not_lt fun q => ?_
  rw [Nat.div_eq_of_lt q] at hq
  have := Nat.two_pow_pos (F.man + 2)
  omega
 obtain ⟨ea, hea⟩ : ∃ ea : Int, ea = x - x' - (S : Int) - 1 := ⟨_, rfl⟩
 have s2 : wrap64 ((wrap64 ((wrap64 (x - x')) - ((S : Nat) : Int))) - 1) = ea := by
  rw [w64 (x := x - x') (by omega) (by omega), w64 (x := x - x' - _) (by omega) (by omega), w64 (by omega) (by omega)]
  omega
 obtain ⟨E', hE'⟩ : ∃ E' : Int, E' = min ea F.low := ⟨_, rfl⟩
 have bq : bl (N / m') ≤ 500000 := Nat.le_trans (bl_mono (Nat.div_le_self _ _)) (by omega)
 have lr : nl (N % m') ≤ 8192 := Nat.le_trans (nl_mono (Nat.mod_le _ _)) lN
 have st0 : stk (N / m') (N % m') ≠ 0 := by
  unfold stk
  have := Nat.two_pow_pos (F.man + 2)
  omega
 have bs : bl (stk (N / m') (N % m')) ≤ 500003 := by
  have : stk (N / m') (N % m') ≤ N / m' * 2 + 1 := by unfold stk; split <;> omega
  exact Nat.le_trans (bl_mono this) (bl_add (bl_mul2 bq (show bl 2 ≤ 2 by decide)) (show bl 1 ≤ 500002 by decide))
 have sz := size_ev h st0 (nl_of_bl (by omega)) (x := ea) (E := E') ⟨by omega, by omega⟩ (by omega) (by omega)
 obtain ⟨s, hs⟩ : ∃ s, s = rsz F (F.low - E').toNat (stk (N / m') (N % m') * 2^(ea - E').toNat) := ⟨_, rfl⟩
 have ns := rsz_nst h (F.low - E').toNat (stk (N / m') (N % m') * 2^(ea - E').toNat)
 rw [← hs] at ns sz
 have hsz := h.sz
 refine ⟨s, ?_, ?_⟩
 ·have q := stk_quo h (by omega) hq ns
  refine nq_cross (Nat.mul_pos (by omega) (Nat.two_pow_pos _)) (by omega) ?_ q
  rw [d.abs, d'.abs, HN.out]
  have e1 : m * 2^S * 2^((ea - E').toNat + 1) * (m' * 2^(x' - E).toNat) = m * m' * 2^(S + ((ea - E').toNat + 1) + (x' - E).toNat) := by rw [Nat.pow_add 2 (S + ((ea - E').toNat + 1)) _, Nat.pow_add 2 S _]; ac_rfl
  have e2 : m * 2^(x - E).toNat * 2^(-F.low).toNat * (m' * 2^(F.low - E').toNat) = m * m' * 2^((x - E).toNat + (-F.low).toNat + (F.low - E').toNat) := by rw [Nat.pow_add 2 ((x - E).toNat + (-F.low).toNat) _, Nat.pow_add 2 (x - E).toNat _]; ac_rfl
  rw [e1, e2]
  congr 2
  omega
 ·unfold round_Quotient.f
  rw [of_f h]
  refine Ev.congr (fun k => if_neg (by rw [fm_ne h]; decide)) ?_
  refine Ev.bind (form_dk d.dk) (Ev.congr (fun k => if_pos rfl) (Ev.bind (form_dk d'.dk) (Ev.congr (fun k => if_pos rfl) ?_)))
  have l1 := nl_pos m0
  have l2 := nl_pos m0'
  have l3 : nl m ≤ 4096 := by unfold nl; omega
  have l4 : nl m' ≤ 4096 := by unfold nl; omega
  refine Ev.congr (fun k => if_neg (by rw [lb_len]; omega)) ?_
  refine Ev.bind (ev_eq (long_f n x l3)) (Ev.congr (fun k => if_neg (by decide)) (Ev.bind (ev_eq (long_f n' x' l4)) (Ev.congr (fun k => if_neg (by decide)) (Ev.congr (fun k => if_neg (by rw [lb_len]; omega)) ?_))))
  refine Ev.bind (ev_eq (bits_f d'.dk.lim)) (Ev.bind (ev_eq (bits_f d.dk.lim)) ?_)
  dsimp only
  rw [HS1.out, s2]
  refine Ev.bind (ev_eq (shl_f d.dk.lim (n := S) (.inr (by omega)))) ?_
  rw [← HN.out]
  refine Ev.bind (ev_eq (quoRem_f lN m0' lt' hle)) (Ev.bind (ev_eq (sticky_f bq lr)) ?_)
  refine Ev.bind sz ?_
  rw [d.neg, d'.neg]
  exact Ev.bind (ev_eq (signed_f h _ (by have := ns.le; omega))) (Ev.now _)
end Go.Proofs.YtokoadgahflafaaGreatDoor.Sf5
end
