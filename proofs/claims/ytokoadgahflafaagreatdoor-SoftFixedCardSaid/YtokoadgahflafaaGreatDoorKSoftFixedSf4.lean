/- Quotients and roots of layer 9's numbers: plain Lean over the functions. Conditions: sizes of one limb; formats. -/
import Derived.Test.YtokoadgahflafaaGreatDoorKSoftFixedSf1
set_option linter.unusedVariables false
namespace Go.Proofs.YtokoadgahflafaaGreatDoor.Sf4
open Go.RowKit Go.Proofs.YtokoadgahflafaaGreatDoorW.PrintWords Go.Proofs.YtokoadgahflafaaGreatDoorW.PrintMore Go.Proofs.YtokoadgahflafaaGreatDoor.Num Go.Proofs.YtokoadgahflafaaGreatDoor.PLib Go.Proofs.YtokoadgahflafaaGreatDoor.Ref Go.Proofs.YtokoadgahflafaaGreatDoor.GTh Go.Proofs.YtokoadgahflafaaGreatDoor.Given Go.Proofs.YtokoadgahflafaaGreatDoor.Rp1 Go.Proofs.YtokoadgahflafaaGreatDoor.Rp2 Go.Proofs.YtokoadgahflafaaGreatDoor.Rp3 Go.Proofs.YtokoadgahflafaaGreatDoor.Rp4 Go.Proofs.YtokoadgahflafaaGreatDoor.Rp7 Go.Proofs.YtokoadgahflafaaGreatDoor.BinLaw Go.Proofs.YtokoadgahflafaaGreatDoor.Fm8 Go.Proofs.YtokoadgahflafaaGreatDoor.Rnd Go.Proofs.YtokoadgahflafaaGreatDoor.Px Go.Proofs.YtokoadgahflafaaGreatDoor.Sf1
theorem rd_one {b : Nat} (h0 : b ≠ 0) (hb : b < 18446744073709551616) : rd (lb b) 0 = (b : Int) := by
 have := lb_rd (x := b) (j := 0) (nl_pos h0)
 rw [show (0 : Int) = ((0 : Nat) : Int) from rfl, this]
 unfold dw
 rw [pw_zero, Nat.div_one, Nat.mod_eq_of_lt hb]
theorem natForm_t {m : Nat} (h : nl m ≤ 8192) : nat_Form.f (lb m) = some true := by rw [natForm_f, nfm_lb h]
theorem quoRem_f {a b : Nat} (ha : nl a ≤ 8192) (h0 : b ≠ 0) (hb : b < 18446744073709551616) (hle : b ≤ a) : natdiv_QuoRem.f (lb a) (lb b) = some (lb (a / b), lb (a % b), 0) := by
 have l1 := nl_one h0 hb
 have hr : a % b < 18446744073709551616 := Nat.lt_trans (Nat.mod_lt _ (by omega)) hb
 have c : ¬ cmI a b < 0 := by
  unfold cmI
  rw [if_neg (by omega)]
  split <;> omega
 unfold natdiv_QuoRem.f
 rw [natForm_t ha, natForm_t (show nl b ≤ 8192 by omega)]
 simp only [Option.bind_some, if_true]
 rw [if_neg (by rw [lb_len, l1]; decide), cmp_f (by omega) (by omega)]
 simp only [Option.bind_some]
 rw [if_neg c, if_pos (by rw [lb_len, l1]; rfl), if_pos (by rw [lb_len, l1]; decide), rd_one h0 hb]
 unfold nat_DivWord.f
 rw [if_pos ⟨fmL_lb ha, by omega, by omega⟩, vL_lb, Int.toNat_natCast]
 simp only [Option.bind_some]
 rw [word_f _ hr]
 rfl
theorem newton_ge {a r x : Nat} (h1 : r * r ≤ a) (x0 : 0 < x) : r ≤ (x + a / x) / 2 := by
 by_cases c : r ≤ (x + a / x) / 2
 ·exact c
 ·exfalso
  have c1 : x + a / x < 2 * r := by omega
  obtain ⟨t, ht⟩ : ∃ t, 2 * r = x + t := ⟨2 * r - x, by generalize a / x = q at *; omega⟩
  have c2 : a / x < t := by omega
  have c3 : a < t * x := (Nat.div_lt_iff_lt_mul x0).1 c2
  clear c c1 c2
  have c4 : t * x ≤ r * r := by
   rcases Nat.le_total t r with q | q
   ·obtain ⟨d, rfl⟩ : ∃ d, r = t + d := ⟨r - t, by omega⟩
    obtain rfl : x = t + d + d := by omega
    have e : (t + d) * (t + d) = t * (t + d + d) + d * d := by
     simp only [Nat.mul_add, Nat.add_mul]; rw [Nat.mul_comm d t]; omega
    omega
   ·obtain ⟨d, rfl⟩ : ∃ d, t = r + d := ⟨t - r, by omega⟩
    obtain ⟨e, rfl⟩ : ∃ e, r = e + d := ⟨r - d, by omega⟩
    obtain rfl : x = e := by omega
    have e : (x + d) * (x + d) = (x + d + d) * x + d * d := by
     simp only [Nat.mul_add, Nat.add_mul]; rw [Nat.mul_comm d x]; omega
    omega
  omega
theorem newton_end {a r x : Nat} (h1 : r ≤ x) (h2 : a < (r + 1) * (r + 1)) (x0 : 0 < x) (h : x ≤ (x + a / x) / 2) : x = r := by
 have c1 : x ≤ a / x := by omega
 have c2 : x * x ≤ a := by rwa [Nat.le_div_iff_mul_le x0] at c1
 have c3 : x * x < (r + 1) * (r + 1) := by omega
 have c4 : x < r + 1 := by
  refine Nat.lt_of_not_le fun q => ?_
  have := Nat.mul_self_le_mul_self q
  omega
 omega
theorem step_ev {a x : Nat} (ha : nl a ≤ 8192) (x0 : x ≠ 0) (hx : x < 18446744073709551616) (hle : x ≤ a) (hq : nl (x + a / x) ≤ 8192) {β : Type} {G : Int → List Int → Nat → Option β} {r : β} (h : Ev (fun k => G (cmI ((x + a / x) / 2) x) (lb ((x + a / x) / 2)) k) r) :
  Ev (fun k => (natdiv_QuoRem.f (lb a) (lb x)).bind fun bt1 => ((nat_Add.f (lb x) bt1.1).bind fun bt2 => ((nat_Shr.f bt2.1 1).bind fun bt3 => ((nat_Cmp.f bt3.1 (lb x)).bind fun t4 => G t4 bt3.1 k)))) r := by
 have l1 := nl_one x0 hx
 have lq : nl (a / x) ≤ 8192 := Nat.le_trans (nl_mono (Nat.div_le_self _ _)) ha
 have ly : nl ((x + a / x) / 2) ≤ 8192 := Nat.le_trans (nl_mono (Nat.div_le_self _ _)) hq
 have e2 : nat_Shr.f (lb (x + a / x)) 1 = some (lb ((x + a / x) / 2), 0) := by
  have := shr_f (n := 1) hq (by decide)
  rw [Nat.pow_one] at this
  exact this
 refine Ev.bind (ev_eq (quoRem_f ha x0 hx hle)) ?_
 refine Ev.bind (ev_eq (add_f (by omega) lq hq)) ?_
 refine Ev.bind (ev_eq e2) ?_
 exact Ev.bind (ev_eq (cmp_f (by omega) (by omega))) h
theorem cmI_ge {y x : Nat} (h : x ≤ y) : cmI y x ≥ 0 := by
 unfold cmI
 rw [if_neg (by omega)]
 split <;> decide
theorem sum_le {a x : Nat} (x0 : x ≠ 0) (hle : x ≤ a) : x + a / x ≤ 2 * a := by
 have := Nat.div_le_self a x
 omega
theorem l0_ev {a r : Nat} (ha : bl a ≤ 500000) (h1 : r * r ≤ a) (h2 : a < (r + 1) * (r + 1)) (r0 : r ≠ 0) : ∀ (N x : Nat), x ≤ N → r ≤ x → x ≤ a → x < 18446744073709551616 → Ev (fun k => natdiv_root.l0 k (lb a) (lb x)) (lb r) := by
 intro N
 induction N with
 | zero => intro x h _ _ _; omega
 | succ N ih =>
  intro x hN hr hle hx
  have hq : nl (x + a / x) ≤ 8192 := nl_of_bl (Nat.le_trans (bl_mono (sum_le (by omega) hle)) (by
   have := bl_mul2 (show bl 2 ≤ 2 by decide) ha
   omega))
  refine Ev.succ ?_
  simp only [natdiv_root.l0]
  refine step_ev (G := fun t l k => if t ≥ 0 then some (lb x) else natdiv_root.l0 k (lb a) l) (nl_of_bl (by omega)) (by omega) hx hle hq ?_
  by_cases c : x ≤ (x + a / x) / 2
  ·obtain rfl := newton_end hr h2 (by omega) c
   exact Ev.congr (fun k => if_pos (cmI_ge c)) (Ev.now _)
  ·have c2 : cmI ((x + a / x) / 2) x = -1 := if_pos (by omega)
   rw [c2]
   refine Ev.congr (fun k => if_neg (by decide)) ?_
   have := newton_ge (x := x) h1 (by omega)
   exact ih _ (by omega) this (by omega) (by omega)
end Go.Proofs.YtokoadgahflafaaGreatDoor.Sf4
