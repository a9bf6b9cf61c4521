/- Layer 9's values: telling and reading again, turning, order of arguments. Plain Lean. Conditions: formats. Quotients and roots of layer 9's numbers: plain Lean over the functions. Conditions: sizes of one limb; formats. Roots and comparisons of layer 9's numbers; what Div, Sqrt and Compare answer: plain Lean over the functions. Conditions: formats. -/
import Derived.Test.YtokoadgahflafaaGreatDoorKSoftErrorsSf2
section
set_option linter.unusedVariables false
namespace Go.Proofs.YtokoadgahflafaaGreatDoor.Sf3
open Go.RowKit Go.Proofs.YtokoadgahflafaaGreatDoorW.PrintWords Go.Proofs.YtokoadgahflafaaGreatDoorW.PrintMore Go.Proofs.YtokoadgahflafaaGreatDoor.Num Go.Proofs.YtokoadgahflafaaGreatDoor.PLib Go.Proofs.YtokoadgahflafaaGreatDoor.Ref Go.Proofs.YtokoadgahflafaaGreatDoor.GTh Go.Proofs.YtokoadgahflafaaGreatDoor.Given Go.Proofs.YtokoadgahflafaaGreatDoor.Rp1 Go.Proofs.YtokoadgahflafaaGreatDoor.Rp2 Go.Proofs.YtokoadgahflafaaGreatDoor.Rp3 Go.Proofs.YtokoadgahflafaaGreatDoor.Rp4 Go.Proofs.YtokoadgahflafaaGreatDoor.Rp5 Go.Proofs.YtokoadgahflafaaGreatDoor.Rp7 Go.Proofs.YtokoadgahflafaaGreatDoor.BinLaw Go.Proofs.YtokoadgahflafaaGreatDoor.Fm8 Go.Proofs.YtokoadgahflafaaGreatDoor.Rnd Go.Proofs.YtokoadgahflafaaGreatDoor.Px Go.Proofs.YtokoadgahflafaaGreatDoor.Sf1 Go.Proofs.YtokoadgahflafaaGreatDoor.Sf2
theorem tell_rd {f : Int} {F : Fmt} (h : Fm f F) (n : Bool) {s : Nat} (hs : s ≤ F.inf) : tellV F 0 (rdV F n s) = pat F n s := by
 unfold rdV
 by_cases c0 : s = 0
 ·rw [if_pos c0, c0]; rfl
 rw [if_neg c0]
 by_cases c1 : s < F.inf
 ·rw [if_pos c1]
  show Rp4.pv F 0 (sv n (nF F s)) = _
  unfold Rp4.pv
  rw [if_neg (sv_ne (nF_ne h c0)), sv_abs]
  have e := rsz_self h (g := 0) (s := s) (by omega)
  rw [Nat.pow_zero, Nat.mul_one] at e
  rw [e]
  congr 1
  have hp := nF_ne h c0
  cases n
  ·exact decide_eq_false (by show ¬ ((nF F s : Nat) : Int) < 0; omega)
  ·exact decide_eq_true (by show -((nF F s : Nat) : Int) < 0; omega)
 ·rw [if_neg c1, if_pos (by omega), show s = F.inf by omega]; rfl
theorem rd_quiet {f : Int} {F : Fmt} (h : Fm f F) : rdB F F.qt = .nan := by
 rcases h with ⟨_, rfl⟩ | ⟨_, rfl⟩ <;> kernel_rfl
theorem rd_tell_rd {f : Int} {F : Fmt} (h : Fm f F) (n : Bool) (s : Nat) : rdB F (tellV F 0 (rdV F n s)) = rdV F n s := by
 have hz := h.sz
 by_cases c : s ≤ F.inf
 ·rw [tell_rd h n c, rdB_pat h n (by omega)]
 ·have e : rdV F n s = .nan := by unfold rdV; rw [if_neg (by omega), if_neg (by omega), if_neg (by omega)]
  rw [e]
  exact rd_quiet h
theorem lt_tell {f : Int} {F : Fmt} (h : Fm f F) (g : Nat) (v : Vl) : tellV F g v < 2 * F.sg := by
 have hz := h.sz
 cases v with
 | nan => show F.qt < 2 * F.sg; rcases h with ⟨_, rfl⟩ | ⟨_, rfl⟩ <;> decide
 | inf n => exact pat_lt F n (by omega)
 | nou n => exact pat_lt F n (by omega)
 | num V =>
  show Rp4.pv F g V < _
  unfold Rp4.pv
  split
  ·omega
  ·exact pat_lt F _ (by have := (rsz_nst h g V.natAbs).le; omega)
end Go.Proofs.YtokoadgahflafaaGreatDoor.Sf3
end
section
set_option linter.unusedVariables false
namespace Go.Proofs.YtokoadgahflafaaGreatDoor.Sf4
open Go.RowKit Go.Proofs.YtokoadgahflafaaGreatDoorW.PrintWords Go.Proofs.YtokoadgahflafaaGreatDoorW.PrintMore Go.Proofs.YtokoadgahflafaaGreatDoor.Num Go.Proofs.YtokoadgahflafaaGreatDoor.PLib Go.Proofs.YtokoadgahflafaaGreatDoor.Ref Go.Proofs.YtokoadgahflafaaGreatDoor.GTh Go.Proofs.YtokoadgahflafaaGreatDoor.Given Go.Proofs.YtokoadgahflafaaGreatDoor.Rp1 Go.Proofs.YtokoadgahflafaaGreatDoor.Rp2 Go.Proofs.YtokoadgahflafaaGreatDoor.Rp3 Go.Proofs.YtokoadgahflafaaGreatDoor.Rp4 Go.Proofs.YtokoadgahflafaaGreatDoor.Rp5 Go.Proofs.YtokoadgahflafaaGreatDoor.Rp7 Go.Proofs.YtokoadgahflafaaGreatDoor.BinLaw Go.Proofs.YtokoadgahflafaaGreatDoor.Fm8 Go.Proofs.YtokoadgahflafaaGreatDoor.Rnd Go.Proofs.YtokoadgahflafaaGreatDoor.Px Go.Proofs.YtokoadgahflafaaGreatDoor.Sf1 Go.Proofs.YtokoadgahflafaaGreatDoor.Sf2 Go.Proofs.YtokoadgahflafaaGreatDoor.Sf3
theorem rd_one {b : Nat} (h0 : b ≠ 0) (hb : b < 18446744073709551616) : rd (lb b) 0 = (b : Int) := by
 have := lb_rd (x := b) (j := 0) (nl_pos h0)
 rw [show (0 : Int) = ((0 : Nat) : Int) from rfl, this]
 unfold dw
 rw [pw_zero, Nat.div_one, Nat.mod_eq_of_lt hb]
theorem natForm_t {m : Nat} (h : nl m ≤ 8192) : nat_Form.f (lb m) = some true := by rw [natForm_f, nfm_lb h]
theorem quoRem_f {a b : Nat} (ha : nl a ≤ 8192) (h0 : b ≠ 0) (hb : b < 18446744073709551616) (hle : b ≤ a) : natdiv_QuoRem.f (lb a) (lb b) = some (lb (a / b), lb (a % b), 0) := by
 have l1 := nl_one h0 hb
 have hr : a % b < 18446744073709551616 := Nat.lt_trans (Nat.mod_lt _ (by omega)) hb
 have c : ¬ cmI a b < 0 := by
  unfold cmI
  rw [if_neg (by omega)]
  split <;> omega
 unfold natdiv_QuoRem.f
 rw [natForm_t ha, natForm_t (show nl b ≤ 8192 by omega)]
 simp only [Option.bind_some, if_true]
 rw [if_neg (by rw [lb_len, l1]; decide), cmp_f (by omega) (by omega)]
 simp only [Option.bind_some]
 rw [if_neg c, if_pos (by rw [lb_len, l1]; rfl), if_pos (by rw [lb_len, l1]; decide), rd_one h0 hb]
 unfold nat_DivWord.f
 rw [if_pos ⟨fmL_lb ha, by omega, by omega⟩, vL_lb, Int.toNat_natCast]
 simp only [Option.bind_some]
 rw [word_f _ hr]
 rfl
theorem newton_ge {a r x : Nat} (h1 : r * r ≤ a) (x0 : 0 < x) : r ≤ (x + a / x) / 2 := by
 by_cases c : r ≤ (x + a / x) / 2
 ·exact c
 ·exfalso
  have c1 : x + a / x < 2 * r := by omega
  obtain ⟨t, ht⟩ : ∃ t, 2 * r = x + t := ⟨2 * r - x, by generalize a / x = q at *; omega⟩
  have c2 : a / x < t := by omega
  have c3 : a < t * x := (Nat.div_lt_iff_lt_mul x0).1 c2
  clear c c1 c2
  have c4 : t * x ≤ r * r := by
   rcases Nat.le_total t r with q | q
   ·obtain ⟨d, rfl⟩ : ∃ d, r = t + d := ⟨r - t, by omega⟩
    obtain rfl : x = t + d + d := by omega
    have e : (t + d) * (t + d) = t * (t + d + d) + d * d := by
     simp only [Nat.mul_add, Nat.add_mul]; rw [Nat.mul_comm d t]; omega
    omega
   ·obtain ⟨d, rfl⟩ : ∃ d, t = r + d := ⟨t - r, by omega⟩
    obtain ⟨e, rfl⟩ : ∃ e, r = e + d := ⟨r - d, by omega⟩
    obtain rfl : x = e := by omega
    have e : (x + d) * (x + d) = (x + d + d) * x + d * d := by
     simp only [Nat.mul_add, Nat.add_mul]; rw [Nat.mul_comm d x]; omega
    omega
  omega
theorem newton_end {a r x : Nat} (h1 : r ≤ x) (h2 : a < (r + 1) * (r + 1)) (x0 : 0 < x) (h : x ≤ (x + a / x) / 2) : x = r := by
 have c1 : x ≤ a / x := by omega
 have c2 : x * x ≤ a := by rwa [Nat.le_div_iff_mul_le x0] at c1
 have c3 : x * x < (r + 1) * (r + 1) := by omega
 have c4 : x < r + 1 := by
  refine Nat.lt_of_not_le fun q => ?_
  have := Nat.mul_self_le_mul_self q
  omega
 omega
theorem step_ev {a x : Nat} (ha : nl a ≤ 8192) (x0 : x ≠ 0) (hx : x < 18446744073709551616) (hle : x ≤ a) (hq : nl (x + a / x) ≤ 8192) {β : Type} {G : Int → List Int → Nat → Option β} {r : β} (h : Ev (fun k => G (cmI ((x + a / x) / 2) x) (lb ((x + a / x) / 2)) k) r) :
  Ev (fun k => (natdiv_QuoRem.f (lb a) (lb x)).bind fun bt1 => ((nat_Add.f (lb x) bt1.1).bind fun bt2 => ((nat_Shr.f bt2.1 1).bind fun bt3 => ((nat_Cmp.f bt3.1 (lb x)).bind fun t4 => G t4 bt3.1 k)))) r := by
 have l1 := nl_one x0 hx
 have lq : nl (a / x) ≤ 8192 := Nat.le_trans (nl_mono (Nat.div_le_self _ _)) ha
 have ly : nl ((x + a / x) / 2) ≤ 8192 := Nat.le_trans (nl_mono (Nat.div_le_self _ _)) hq
 have e2 : nat_Shr.f (lb (x + a / x)) 1 = some (lb ((x + a / x) / 2), 0) := by
  have := shr_f (n := 1) hq (by decide)
  rw [Nat.pow_one] at this
  exact this
 refine Ev.bind (ev_eq (quoRem_f ha x0 hx hle)) ?_
 refine Ev.bind (ev_eq (add_f (by omega) lq hq)) ?_
 refine Ev.bind (ev_eq e2) ?_
 exact Ev.bind (ev_eq (cmp_f (by omega) (by omega))) h
theorem cmI_ge {y x : Nat} (h : x ≤ y) : cmI y x ≥ 0 := by
 unfold cmI
 rw [if_neg (by omega)]
 split <;> decide
theorem sum_le {a x : Nat} (x0 : x ≠ 0) (hle : x ≤ a) : x + a / x ≤ 2 * a := by
 have := Nat.div_le_self a x
 omega
theorem l0_ev {a r : Nat} (ha : bl a ≤ 500000) (h1 : r * r ≤ a) (h2 : a < (r + 1) * (r + 1)) (r0 : r ≠ 0) : ∀ (N x : Nat), x ≤ N → r ≤ x → x ≤ a → x < 18446744073709551616 → Ev (fun k => natdiv_root.l0 k (lb a) (lb x)) (lb r) := by
 intro N
 induction N with
 | zero => intro x h _ _ _; omega
 | succ N ih =>
  intro x hN hr hle hx
  have hq : nl (x + a / x) ≤ 8192 := nl_of_bl (Nat.le_trans (bl_mono (sum_le (by omega) hle)) (by
   have := bl_mul2 (show bl 2 ≤ 2 by decide) ha
   omega))
  refine Ev.succ ?_
  simp only [natdiv_root.l0]
  refine step_ev (G := fun t l k => if t ≥ 0 then some (lb x) else natdiv_root.l0 k (lb a) l) (nl_of_bl (by omega)) (by omega) hx hle hq ?_
  by_cases c : x ≤ (x + a / x) / 2
  ·obtain rfl := newton_end hr h2 (by omega) c
   exact Ev.congr (fun k => if_pos (cmI_ge c)) (Ev.now _)
  ·have c2 : cmI ((x + a / x) / 2) x = -1 := if_pos (by omega)
   rw [c2]
   refine Ev.congr (fun k => if_neg (by decide)) ?_
   have := newton_ge (x := x) h1 (by omega)
   exact ih _ (by omega) this (by omega) (by omega)
end Go.Proofs.YtokoadgahflafaaGreatDoor.Sf4
end
section
set_option linter.unusedVariables false
namespace Go.Proofs.YtokoadgahflafaaGreatDoor.Sf6
open Go.RowKit Go.Proofs.YtokoadgahflafaaGreatDoorW.PrintWords Go.Proofs.YtokoadgahflafaaGreatDoorW.PrintMore Go.Proofs.YtokoadgahflafaaGreatDoor.Num Go.Proofs.YtokoadgahflafaaGreatDoor.PLib Go.Proofs.YtokoadgahflafaaGreatDoor.Ref Go.Proofs.YtokoadgahflafaaGreatDoor.GTh Go.Proofs.YtokoadgahflafaaGreatDoor.Given Go.Proofs.YtokoadgahflafaaGreatDoor.Rp1 Go.Proofs.YtokoadgahflafaaGreatDoor.Rp2 Go.Proofs.YtokoadgahflafaaGreatDoor.Rp3 Go.Proofs.YtokoadgahflafaaGreatDoor.Rp4 Go.Proofs.YtokoadgahflafaaGreatDoor.Rp5 Go.Proofs.YtokoadgahflafaaGreatDoor.Rp7 Go.Proofs.YtokoadgahflafaaGreatDoor.BinLaw Go.Proofs.YtokoadgahflafaaGreatDoor.Fm8 Go.Proofs.YtokoadgahflafaaGreatDoor.Rnd Go.Proofs.YtokoadgahflafaaGreatDoor.Px Go.Proofs.YtokoadgahflafaaGreatDoor.Sf1 Go.Proofs.YtokoadgahflafaaGreatDoor.Sf2 Go.Proofs.YtokoadgahflafaaGreatDoor.Sf3 Go.Proofs.YtokoadgahflafaaGreatDoor.Sf4
def rkB (F : Fmt) (b : Nat) : Int := rkI (decide (F.sg ≤ b)) (b % F.sg)
theorem Rank_ev {f : Int} {F : Fmt} (h : Fm f F) {b : Nat} (hb : b < 2 * F.sg) (hn : b % F.sg ≤ F.inf) : Ev (fun k => binary_Rank.f k f (b : Int)) (rkB F b, 0) := by
 have hp := pat_of hb (by have := h.sz; omega)
 have e := rank_pat h (decide (F.sg ≤ b)) hn
 rw [← hp.1] at e
 unfold binary_Rank.f
 exact Ev.bind e (Ev.now _)
theorem none_ev {E : Int} {B : Nat} {v : Vl} {o : Opd} (h : OdE E B v o) : (v = .nan ∧ soft_none.f o = some true) ∨ (v ≠ .nan ∧ soft_none.f o = some false) := by
 cases v with
 | nan => obtain rfl := h; exact .inl ⟨rfl, rfl⟩
 | inf n => obtain rfl := h; exact .inr ⟨(fun x => by cases x), rfl⟩
 | nou n => obtain rfl := h; exact .inr ⟨(fun x => by cases x), rfl⟩
 | num V => obtain ⟨n, m, z, rfl, d, v0, bm⟩ := h; exact .inr ⟨(fun x => by cases x), rfl⟩
theorem rd_nan {F : Fmt} {b : Nat} (hI : 0 < F.inf) : rdB F b = .nan ↔ F.inf < b % F.sg := by
 unfold rdB rdV
 constructor
 ·intro e
  refine Nat.lt_of_not_le fun c => ?_
  split at e
  ·cases e
  ·split at e
   ·cases e
   ·rw [if_pos (by omega)] at e; cases e
 ·intro c
  rw [if_neg (by omega), if_neg (by omega), if_neg (by omega)]
def cmpB (F : Fmt) (a b : Nat) : Int := if F.inf < a % F.sg ∨ F.inf < b % F.sg then 2 else cmZ (rkB F a) (rkB F b)
theorem compare_ev {f : Int} {F : Fmt} (h : Fm f F) {a b : Nat} (ha : a < 2 * F.sg) (hb : b < 2 * F.sg) : Ev (fun k => soft_Compare.f k f (a : Int) (b : Int)) (cmpB F a b, 0) := by
 obtain ⟨x, y, hx, hy, e⟩ := pair_ev h ha hb
 have hI := h.sz.1
 unfold soft_Compare.f cmpB
 refine Ev.bind e (Ev.congr (fun k => if_pos rfl) ?_)
 rcases none_ev hx with ⟨c1, c2⟩ | ⟨c1, c2⟩
 ·rw [if_pos (.inl ((rd_nan hI).1 c1))]
  exact Ev.bind (ev_eq c2) (Ev.congr (fun k => if_pos rfl) (Ev.now _))
 refine Ev.bind (ev_eq c2) (Ev.congr (fun k => if_neg (by decide)) ?_)
 rcases none_ev hy with ⟨d1, d2⟩ | ⟨d1, d2⟩
 ·rw [if_pos (.inr ((rd_nan hI).1 d1))]
  exact Ev.bind (ev_eq d2) (Ev.congr (fun k => if_pos rfl) (Ev.now _))
 refine Ev.bind (ev_eq d2) (Ev.congr (fun k => if_neg (by decide)) ?_)
 have n1 : ¬ F.inf < a % F.sg := fun q => c1 ((rd_nan hI).2 q)
 have n2 : ¬ F.inf < b % F.sg := fun q => d1 ((rd_nan hI).2 q)
 rw [if_neg (fun q => q.elim n1 n2)]
 refine Ev.bind (Rank_ev h ha (by omega)) (Ev.bind (Rank_ev h hb (by omega)) ?_)
 unfold cmZ
 dsimp only
 by_cases k1 : rkB F a < rkB F b
 ·rw [if_pos k1, if_pos k1]; exact Ev.now _
 ·rw [if_neg k1, if_neg k1]
  by_cases k2 : rkB F b < rkB F a
  ·rw [if_pos k2, if_pos k2]; exact Ev.now _
  ·rw [if_neg k2, if_neg k2]; exact Ev.now _
end Go.Proofs.YtokoadgahflafaaGreatDoor.Sf6
end
