/- Quotients of layer 9's numbers: plain Lean over the functions. Conditions: sizes of one limb; formats. -/
import Derived.Test.YtokoadgahflafaaGreatDoorKSoftThroughDoubleSf4
set_option linter.unusedVariables false
namespace Go.Proofs.YtokoadgahflafaaGreatDoor.Sf5
open Go.RowKit Go.Proofs.YtokoadgahflafaaGreatDoorW.PrintWords Go.Proofs.YtokoadgahflafaaGreatDoorW.PrintMore Go.Proofs.YtokoadgahflafaaGreatDoor.Num Go.Proofs.YtokoadgahflafaaGreatDoor.PLib Go.Proofs.YtokoadgahflafaaGreatDoor.Ref Go.Proofs.YtokoadgahflafaaGreatDoor.GTh Go.Proofs.YtokoadgahflafaaGreatDoor.Given Go.Proofs.YtokoadgahflafaaGreatDoor.Rp1 Go.Proofs.YtokoadgahflafaaGreatDoor.Rp2 Go.Proofs.YtokoadgahflafaaGreatDoor.Rp3 Go.Proofs.YtokoadgahflafaaGreatDoor.Rp4 Go.Proofs.YtokoadgahflafaaGreatDoor.Rp5 Go.Proofs.YtokoadgahflafaaGreatDoor.Rp7 Go.Proofs.YtokoadgahflafaaGreatDoor.BinLaw Go.Proofs.YtokoadgahflafaaGreatDoor.Fm8 Go.Proofs.YtokoadgahflafaaGreatDoor.Rnd Go.Proofs.YtokoadgahflafaaGreatDoor.Sq Go.Proofs.YtokoadgahflafaaGreatDoor.Px Go.Proofs.YtokoadgahflafaaGreatDoor.Sf1 Go.Proofs.YtokoadgahflafaaGreatDoor.Sf2 Go.Proofs.YtokoadgahflafaaGreatDoor.Sf3 Go.Proofs.YtokoadgahflafaaGreatDoor.Sf4
theorem mx_max (a b : Int) : mx a b = max a b := by unfold mx; split <;> omega
theorem nq_cross {F : Fmt} {n d n' d' s : Nat} (hd : 0 < d) (hd' : 0 < d') (e : n * d' = n' * d) (h : Nq F n d s) : Nq F n' d' s := by
 have h2 := nq_scaled hd' h
 rw [e, Nat.mul_comm d d'] at h2
 exact nq_scale hd h2
theorem fm_ne {f : Int} {F : Fmt} (h : Fm f F) : ((((F.man : Nat) : Int)) == 0 && (F.low == 0 && (((F.wd - 1 : Nat) : Int) == 0))) = false := by rcases h with ⟨_, rfl⟩ | ⟨_, rfl⟩ <;> rfl
theorem long_f (n : Bool) {m : Nat} (x : Int) (h : nl m ≤ 4096) : round_long.f n (lb m) x = some false := by
 unfold round_long.f
 rw [lb_len, decide_eq_false (by omega)]
theorem quot_ev {f : Int} {F : Fmt} (h : Fm f F) {E : Int} {n n' : Bool} {m m' : Nat} {x x' V W : Int} (d : Dy E n m x V) (d' : Dy E n' m' x' W) (v0 : V ≠ 0) (w0 : W ≠ 0) (hm : bl m ≤ 53) (hm' : bl m' ≤ 53) (hV : bl V.natAbs ≤ 3000) (hW : bl W.natAbs ≤ 3000) (hE : -5000 ≤ E) (hE0 : E ≤ 0) :
  ∃ s, Nq F (V.natAbs * 2^(-F.low).toNat) W.natAbs s ∧ Ev (fun k => round_Quotient.f k f n (lb m) x n' (lb m') x') (((pat F (decide (V < 0) != decide (W < 0)) s : Nat) : Int), 0) := by
 have m0 : m ≠ 0 := fun e => v0 (d.zero.1 e)
 have m0' : m' ≠ 0 := fun e => w0 (d'.zero.1 e)
 have b1 := d.bl m0
 have b2 := d'.bl m0'
 have x1 := d.le
 have x2 := d'.le
 have hl := low_rng h
 have hfm := fm_man h
 have p1 := bl_pos m0
 have p2 := bl_pos m0'
 have lt' : m' < 18446744073709551616 := by
  have q1 := bl_lt m'
  have q2 : 2^(bl m') ≤ 2^64 := Nat.pow_le_pow_right (by decide) (by omega)
  have q3 : (2 : Nat)^64 = 18446744073709551616 := by decide
  omega
 obtain ⟨S, hS⟩ : ∃ S : Nat, S = F.man + 3 + bl m' - bl m := ⟨_, rfl⟩
 have s1 : mx 0 (wrap64 ((wrap64 ((wrap64 (((F.man : Nat) : Int) + 3)) + ((bl m' : Nat) : Int))) - ((bl m : Nat) : Int))) = ((S : Nat) : Int) := by
  rw [mx_max, w64 (x := ((F.man : Nat) : Int) + 3) (by omega) (by omega), w64 (x := ((F.man : Nat) : Int) + 3 + _) (by omega) (by omega), w64 (by omega) (by omega)]
  omega
 obtain ⟨N, hN⟩ : ∃ N, N = m * 2^S := ⟨_, rfl⟩
 have bN : bl N = bl m + S := by rw [hN, bl_mul _ _ m0]
 have N0 : N ≠ 0 := by rw [hN]; exact Nat.mul_ne_zero m0 (Nat.pos_iff_ne_zero.1 (Nat.two_pow_pos S))
 have lN : nl N ≤ 8192 := nl_of_bl (by rw [bN]; clear hN N0 s1 bN; omega)
 have HN := Lib.hid hN
 have HS1 := Lib.hid s1
 clear hN s1
 have hq : 2^(F.man + 2) ≤ N / m' := by
  rw [Nat.le_div_iff_mul_le (by omega)]
  have q1 := bl_lt m'
  have q2 := bl_ge N0
  have q3 : 2^(F.man + 2) * m' ≤ 2^(F.man + 2) * 2^(bl m') := Nat.mul_le_mul_left _ (by omega)
  rw [← Nat.pow_add] at q3
  have q4 : 2^(F.man + 2 + bl m') ≤ 2^(bl N - 1) := Nat.pow_le_pow_right (by decide) (by omega)
  omega
 have hle : m' ≤ N := by
  refine Nat.le_of_not_lt fun q => ?_
  rw [Nat.div_eq_of_lt q] at hq
  have := Nat.two_pow_pos (F.man + 2)
  omega
 obtain ⟨ea, hea⟩ : ∃ ea : Int, ea = x - x' - (S : Int) - 1 := ⟨_, rfl⟩
 have s2 : wrap64 ((wrap64 ((wrap64 (x - x')) - ((S : Nat) : Int))) - 1) = ea := by
  rw [w64 (x := x - x') (by omega) (by omega), w64 (x := x - x' - _) (by omega) (by omega), w64 (by omega) (by omega)]
  omega
 obtain ⟨E', hE'⟩ : ∃ E' : Int, E' = min ea F.low := ⟨_, rfl⟩
 have bq : bl (N / m') ≤ 500000 := Nat.le_trans (bl_mono (Nat.div_le_self _ _)) (by omega)
 have lr : nl (N % m') ≤ 8192 := Nat.le_trans (nl_mono (Nat.mod_le _ _)) lN
 have st0 : stk (N / m') (N % m') ≠ 0 := by
  unfold stk
  have := Nat.two_pow_pos (F.man + 2)
  omega
 have bs : bl (stk (N / m') (N % m')) ≤ 500003 := by
  have : stk (N / m') (N % m') ≤ N / m' * 2 + 1 := by unfold stk; split <;> omega
  exact Nat.le_trans (bl_mono this) (bl_add (bl_mul2 bq (show bl 2 ≤ 2 by decide)) (show bl 1 ≤ 500002 by decide))
 have sz := size_ev h st0 (nl_of_bl (by omega)) (x := ea) (E := E') ⟨by omega, by omega⟩ (by omega) (by omega)
 obtain ⟨s, hs⟩ : ∃ s, s = rsz F (F.low - E').toNat (stk (N / m') (N % m') * 2^(ea - E').toNat) := ⟨_, rfl⟩
 have ns := rsz_nst h (F.low - E').toNat (stk (N / m') (N % m') * 2^(ea - E').toNat)
 rw [← hs] at ns sz
 have hsz := h.sz
 refine ⟨s, ?_, ?_⟩
 ·have q := stk_quo h (by omega) hq ns
  refine nq_cross (Nat.mul_pos (by omega) (Nat.two_pow_pos _)) (by omega) ?_ q
  rw [d.abs, d'.abs, HN.out]
  have e1 : m * 2^S * 2^((ea - E').toNat + 1) * (m' * 2^(x' - E).toNat) = m * m' * 2^(S + ((ea - E').toNat + 1) + (x' - E).toNat) := by rw [Nat.pow_add 2 (S + ((ea - E').toNat + 1)) _, Nat.pow_add 2 S _]; ac_rfl
  have e2 : m * 2^(x - E).toNat * 2^(-F.low).toNat * (m' * 2^(F.low - E').toNat) = m * m' * 2^((x - E).toNat + (-F.low).toNat + (F.low - E').toNat) := by rw [Nat.pow_add 2 ((x - E).toNat + (-F.low).toNat) _, Nat.pow_add 2 (x - E).toNat _]; ac_rfl
  rw [e1, e2]
  congr 2
  omega
 ·unfold round_Quotient.f
  rw [of_f h]
  refine Ev.congr (fun k => if_neg (by rw [fm_ne h]; decide)) ?_
  refine Ev.bind (form_dk d.dk) (Ev.congr (fun k => if_pos rfl) (Ev.bind (form_dk d'.dk) (Ev.congr (fun k => if_pos rfl) ?_)))
  have l1 := nl_pos m0
  have l2 := nl_pos m0'
  have l3 : nl m ≤ 4096 := by unfold nl; omega
  have l4 : nl m' ≤ 4096 := by unfold nl; omega
  refine Ev.congr (fun k => if_neg (by rw [lb_len]; omega)) ?_
  refine Ev.bind (ev_eq (long_f n x l3)) (Ev.congr (fun k => if_neg (by decide)) (Ev.bind (ev_eq (long_f n' x' l4)) (Ev.congr (fun k => if_neg (by decide)) (Ev.congr (fun k => if_neg (by rw [lb_len]; omega)) ?_))))
  refine Ev.bind (ev_eq (bits_f d'.dk.lim)) (Ev.bind (ev_eq (bits_f d.dk.lim)) ?_)
  dsimp only
  rw [HS1.out, s2]
  refine Ev.bind (ev_eq (shl_f d.dk.lim (n := S) (.inr (by omega)))) ?_
  rw [← HN.out]
  refine Ev.bind (ev_eq (quoRem_f lN m0' lt' hle)) (Ev.bind (ev_eq (sticky_f bq lr)) ?_)
  refine Ev.bind sz ?_
  rw [d.neg, d'.neg]
  exact Ev.bind (ev_eq (signed_f h _ (by have := ns.le; omega))) (Ev.now _)
end Go.Proofs.YtokoadgahflafaaGreatDoor.Sf5
