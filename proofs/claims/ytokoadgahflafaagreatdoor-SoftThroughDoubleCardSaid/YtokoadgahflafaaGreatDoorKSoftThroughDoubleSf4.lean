/- Quotients and roots of layer 9's numbers: plain Lean over the functions. Conditions: sizes of one limb; formats. -/
import Derived.Test.YtokoadgahflafaaGreatDoorKSoftThroughDoubleSf3
set_option linter.unusedVariables false
namespace Go.Proofs.YtokoadgahflafaaGreatDoor.Sf4
open Go.RowKit Go.Proofs.YtokoadgahflafaaGreatDoorW.PrintWords Go.Proofs.YtokoadgahflafaaGreatDoorW.PrintMore Go.Proofs.YtokoadgahflafaaGreatDoor.Num Go.Proofs.YtokoadgahflafaaGreatDoor.PLib Go.Proofs.YtokoadgahflafaaGreatDoor.Ref Go.Proofs.YtokoadgahflafaaGreatDoor.GTh Go.Proofs.YtokoadgahflafaaGreatDoor.Given Go.Proofs.YtokoadgahflafaaGreatDoor.Rp1 Go.Proofs.YtokoadgahflafaaGreatDoor.Rp2 Go.Proofs.YtokoadgahflafaaGreatDoor.Rp3 Go.Proofs.YtokoadgahflafaaGreatDoor.Rp4 Go.Proofs.YtokoadgahflafaaGreatDoor.Rp5 Go.Proofs.YtokoadgahflafaaGreatDoor.Rp7 Go.Proofs.YtokoadgahflafaaGreatDoor.BinLaw Go.Proofs.YtokoadgahflafaaGreatDoor.Fm8 Go.Proofs.YtokoadgahflafaaGreatDoor.Rnd Go.Proofs.YtokoadgahflafaaGreatDoor.Sq Go.Proofs.YtokoadgahflafaaGreatDoor.Px Go.Proofs.YtokoadgahflafaaGreatDoor.Sf1 Go.Proofs.YtokoadgahflafaaGreatDoor.Sf2 Go.Proofs.YtokoadgahflafaaGreatDoor.Sf3
theorem rd_one {b : Nat} (h0 : b ≠ 0) (hb : b < 18446744073709551616) : rd (lb b) 0 = (b : Int) := by
 have := lb_rd (x := b) (j := 0) (nl_pos h0)
 rw [show (0 : Int) = ((0 : Nat) : Int) from rfl, this]
 unfold dw
 rw [pw_zero, Nat.div_one, Nat.mod_eq_of_lt hb]
theorem natForm_t {m : Nat} (h : nl m ≤ 8192) : nat_Form.f (lb m) = some true := by rw [natForm_f, nfm_lb h]
theorem quoRem_f {a b : Nat} (ha : nl a ≤ 8192) (h0 : b ≠ 0) (hb : b < 18446744073709551616) (hle : b ≤ a) : natdiv_QuoRem.f (lb a) (lb b) = some (lb (a / b), lb (a % b), 0) := by
 have l1 := nl_one h0 hb
 have hr : a % b < 18446744073709551616 := Nat.lt_trans (Nat.mod_lt _ (by omega)) hb
 have c : ¬ cmI a b < 0 := by
  unfold cmI
  rw [if_neg (by omega)]
  split <;> omega
 unfold natdiv_QuoRem.f
 rw [natForm_t ha, natForm_t (show nl b ≤ 8192 by omega)]
 simp only [Option.bind_some, if_true]
 rw [if_neg (by rw [lb_len, l1]; decide), cmp_f (by omega) (by omega)]
 simp only [Option.bind_some]
 rw [if_neg c, if_pos (by rw [lb_len, l1]; rfl), if_pos (by rw [lb_len, l1]; decide), rd_one h0 hb]
 unfold nat_DivWord.f
 rw [if_pos ⟨fmL_lb ha, by omega, by omega⟩, vL_lb, Int.toNat_natCast]
 simp only [Option.bind_some]
 rw [word_f _ hr]
 rfl
theorem newton_ge {a r x : Nat} (h1 : r * r ≤ a) (x0 : 0 < x) : r ≤ (x + a / x) / 2 := by
 by_cases c : r ≤ (x + a / x) / 2
 ·exact c
 ·exfalso
  have c1 : x + a / x < 2 * r := by omega
  obtain ⟨t, ht⟩ : ∃ t, 2 * r = x + t := ⟨2 * r - x, by generalize a / x = q at *; omega⟩
  have c2 : a / x < t := by omega
  have c3 : a < t * x := (Nat.div_lt_iff_lt_mul x0).1 c2
  clear c c1 c2
  have c4 : t * x ≤ r * r := by
   rcases Nat.le_total t r with q | q
   ·obtain ⟨d, rfl⟩ : ∃ d, r = t + d := ⟨r - t, by omega⟩
    obtain rfl : x = t + d + d := by omega
    have e : (t + d) * (t + d) = t * (t + d + d) + d * d := by
     simp only [Nat.mul_add, Nat.add_mul]; rw [Nat.mul_comm d t]; omega
    omega
   ·obtain ⟨d, rfl⟩ : ∃ d, t = r + d := ⟨t - r, by omega⟩
    obtain ⟨e, rfl⟩ : ∃ e, r = e + d := ⟨r - d, by omega⟩
    obtain rfl : x = e := by omega
    have e : (x + d) * (x + d) = (x + d + d) * x + d * d := by
     simp only [Nat.mul_add, Nat.add_mul]; rw [Nat.mul_comm d x]; omega
    omega
  omega
theorem newton_end {a r x : Nat} (h1 : r ≤ x) (h2 : a < (r + 1) * (r + 1)) (x0 : 0 < x) (h : x ≤ (x + a / x) / 2) : x = r := by
 have c1 : x ≤ a / x := by omega
 have c2 : x * x ≤ a := by rwa [Nat.le_div_iff_mul_le x0] at c1
 have c3 : x * x < (r + 1) * (r + 1) := by omega
 have c4 : x < r + 1 := by
  refine Nat.lt_of_not_le fun q => ?_
  have := Nat.mul_self_le_mul_self q
  omega
 omega
theorem step_ev {a x : Nat} (ha : nl a ≤ 8192) (x0 : x ≠ 0) (hx : x < 18446744073709551616) (hle : x ≤ a) (hq : nl (x + a / x) ≤ 8192) {β : Type} {G : Int → List Int → Nat → Option β} {r : β} (h : Ev (fun k => G (cmI ((x + a / x) / 2) x) (lb ((x + a / x) / 2)) k) r) :
  Ev (fun k => (natdiv_QuoRem.f (lb a) (lb x)).bind fun bt1 => ((nat_Add.f (lb x) bt1.1).bind fun bt2 => ((nat_Shr.f bt2.1 1).bind fun bt3 => ((nat_Cmp.f bt3.1 (lb x)).bind fun t4 => G t4 bt3.1 k)))) r := by
 have l1 := nl_one x0 hx
 have lq : nl (a / x) ≤ 8192 := Nat.le_trans (nl_mono (Nat.div_le_self _ _)) ha
 have ly : nl ((x + a / x) / 2) ≤ 8192 := Nat.le_trans (nl_mono (Nat.div_le_self _ _)) hq
 have e2 : nat_Shr.f (lb (x + a / x)) 1 = some (lb ((x + a / x) / 2), 0) := by
  have := shr_f (n := 1) hq (by decide)
  rw [Nat.pow_one] at this
  exact this
 refine Ev.bind (ev_eq (quoRem_f ha x0 hx hle)) ?_
 refine Ev.bind (ev_eq (add_f (by omega) lq hq)) ?_
 refine Ev.bind (ev_eq e2) ?_
 exact Ev.bind (ev_eq (cmp_f (by omega) (by omega))) h
theorem cmI_ge {y x : Nat} (h : x ≤ y) : cmI y x ≥ 0 := by
 unfold cmI
 rw [if_neg (by omega)]
 split <;> decide
theorem sum_le {a x : Nat} (x0 : x ≠ 0) (hle : x ≤ a) : x + a / x ≤ 2 * a := by
 have := Nat.div_le_self a x
 omega
theorem l0A_ev {a r : Nat} (ha : bl a ≤ 500000) (h1 : r * r ≤ a) (h2 : a < (r + 1) * (r + 1)) (r0 : r ≠ 0) : ∀ (N x : Nat), x ≤ N → r ≤ x → x ≤ a → x < 18446744073709551616 → Ev (fun k => natdiv_rootA.l0 k (lb a) (lb x)) (lb r) := by
 intro N
 induction N with
 | zero => intro x h _ _ _; omega
 | succ N ih =>
  intro x hN hr hle hx
  have hq : nl (x + a / x) ≤ 8192 := nl_of_bl (Nat.le_trans (bl_mono (sum_le (by omega) hle)) (by
   have := bl_mul2 (show bl 2 ≤ 2 by decide) ha
   omega))
  refine Ev.succ ?_
  simp only [natdiv_rootA.l0]
  refine step_ev (G := fun t l k => if t ≥ 0 then some (lb x) else natdiv_rootA.l0 k (lb a) l) (nl_of_bl (by omega)) (by omega) hx hle hq ?_
  by_cases c : x ≤ (x + a / x) / 2
  ·obtain rfl := newton_end hr h2 (by omega) c
   exact Ev.congr (fun k => if_pos (cmI_ge c)) (Ev.now _)
  ·have c2 : cmI ((x + a / x) / 2) x = -1 := if_pos (by omega)
   rw [c2]
   refine Ev.congr (fun k => if_neg (by decide)) ?_
   have := newton_ge (x := x) h1 (by omega)
   exact ih _ (by omega) this (by omega) (by omega)
theorem l0_ev {a r : Nat} (ha : bl a ≤ 500000) (h1 : r * r ≤ a) (h2 : a < (r + 1) * (r + 1)) (r0 : r ≠ 0) : ∀ (N x : Nat), x ≤ N → r ≤ x → x ≤ a → x < 18446744073709551616 → Ev (fun k => natdiv_root.l0 k (lb a) (lb x)) (lb r) := by
 intro N
 induction N with
 | zero => intro x h _ _ _; omega
 | succ N ih =>
  intro x hN hr hle hx
  have hq : nl (x + a / x) ≤ 8192 := nl_of_bl (Nat.le_trans (bl_mono (sum_le (by omega) hle)) (by
   have := bl_mul2 (show bl 2 ≤ 2 by decide) ha
   omega))
  refine Ev.succ ?_
  simp only [natdiv_root.l0]
  refine step_ev (G := fun t l k => if t ≥ 0 then some (lb x) else natdiv_root.l0 k (lb a) l) (nl_of_bl (by omega)) (by omega) hx hle hq ?_
  by_cases c : x ≤ (x + a / x) / 2
  ·obtain rfl := newton_end hr h2 (by omega) c
   exact Ev.congr (fun k => if_pos (cmI_ge c)) (Ev.now _)
  ·have c2 : cmI ((x + a / x) / 2) x = -1 := if_pos (by omega)
   rw [c2]
   refine Ev.congr (fun k => if_neg (by decide)) ?_
   have := newton_ge (x := x) h1 (by omega)
   exact ih _ (by omega) this (by omega) (by omega)
theorem sqrt_ex (a : Nat) : ∃ r, r * r ≤ a ∧ a < (r + 1) * (r + 1) := by
 induction a with
 | zero => exact ⟨0, by decide, by decide⟩
 | succ a ih =>
  obtain ⟨r, h1, h2⟩ := ih
  by_cases c : a + 1 < (r + 1) * (r + 1)
  ·exact ⟨r, by omega, c⟩
  ·refine ⟨r + 1, by omega, ?_⟩
   have : (r + 1) * (r + 1) < (r + 1 + 1) * (r + 1 + 1) := sq_lt (by omega)
   omega
theorem sq_lt_of {x y : Nat} (h : x * x < y * y) : x < y := Nat.lt_of_not_le fun q => by
 have := Nat.mul_self_le_mul_self q
 omega
theorem start_f {n : Nat} (hn : n ≤ 64) : wrap64 (Int.tdiv (wrap64 (((n : Nat) : Int) + 1)) 2) = (((n + 1) / 2 : Nat) : Int) := by
 rw [w64 (x := ((n : Nat) : Int) + 1) (by omega) (by omega), show ((n : Nat) : Int) + 1 = ((n + 1 : Nat) : Int) by omega]
 rw [show Int.tdiv ((n + 1 : Nat) : Int) 2 = (((n + 1) / 2 : Nat) : Int) from (Int.ofNat_tdiv _ _).symm]
 exact w64 (by omega) (by omega)
theorem start_ok {a r : Nat} (h1 : r * r ≤ a) (hn : 2 ≤ bl a) : r ≤ 2^((bl a + 1) / 2) ∧ 2^((bl a + 1) / 2) ≤ a := by
 have a0 : a ≠ 0 := by intro e; rw [e] at hn; exact absurd hn (by decide)
 have e1 := bl_lt a
 have e2 := bl_ge a0
 have p : 2^(bl a) ≤ 2^((bl a + 1) / 2) * 2^((bl a + 1) / 2) := by rw [← Nat.pow_add]; exact Nat.pow_le_pow_right (by decide) (by omega)
 refine ⟨Nat.le_of_lt (sq_lt_of (by omega)), Nat.le_trans (Nat.pow_le_pow_right (by decide) (by omega)) e2⟩
theorem root_small {a r : Nat} (h1 : r * r ≤ a) (h2 : a < (r + 1) * (r + 1)) (hn : 2 ≤ bl a) (hn2 : bl a ≤ 64) : Ev (fun k => natdiv_rootA.f k (lb a)) (lb r) := by
 have s := start_ok h1 hn
 have r0 : r ≠ 0 := by
  rintro rfl
  have := bl_mono (show a ≤ 0 by omega)
  have : bl 0 = 0 := rfl
  omega
 have l1 : nl a ≤ 8192 := nl_of_bl (by omega)
 have p : 2^((bl a + 1) / 2) ≤ 2^32 := Nat.pow_le_pow_right (by decide) (by omega)
 have e1 : nat_Shl.f (lb 1) (((bl a + 1) / 2 : Nat) : Int) = some (lb (2^((bl a + 1) / 2)), 0) := by
  have := shl_f (m := 1) (n := (bl a + 1) / 2) (by decide) (.inr (by rw [show bl 1 = 1 from rfl]; omega))
  rwa [Nat.one_mul] at this
 unfold natdiv_rootA.f
 refine Ev.bind (ev_eq (bits_f l1)) (Ev.congr (fun k => if_neg (by omega)) (Ev.congr (fun k => if_pos (by omega)) ?_))
 refine Ev.bind (ev_eq (word_f 1 (by decide))) ?_
 rw [start_f hn2]
 exact Ev.bind (ev_eq e1) (l0A_ev (by omega) h1 h2 r0 _ _ (Nat.le_refl _) s.1 s.2 (by omega))
theorem root_ev {a r : Nat} (h1 : r * r ≤ a) (h2 : a < (r + 1) * (r + 1)) (hn : 2 ≤ bl a) (hn2 : bl a ≤ 124) : Ev (fun k => natdiv_root.f k (lb a)) (lb r) := by
 have r0 : r ≠ 0 := by
  rintro rfl
  have := bl_mono (show a ≤ 0 by omega)
  have : bl 0 = 0 := rfl
  omega
 have a0 : a ≠ 0 := by intro e; rw [e] at hn; exact absurd hn (by decide)
 have l1 : nl a ≤ 8192 := nl_of_bl (by omega)
 unfold natdiv_root.f
 refine Ev.bind (ev_eq (bits_f l1)) (Ev.congr (fun k => if_neg (by omega)) ?_)
 by_cases c : bl a ≤ 64
 ·have s := start_ok h1 hn
  have p : 2^((bl a + 1) / 2) ≤ 2^32 := Nat.pow_le_pow_right (by decide) (by omega)
  have e1 : nat_Shl.f (lb 1) (((bl a + 1) / 2 : Nat) : Int) = some (lb (2^((bl a + 1) / 2)), 0) := by
   have := shl_f (m := 1) (n := (bl a + 1) / 2) (by decide) (.inr (by rw [show bl 1 = 1 from rfl]; omega))
   rwa [Nat.one_mul] at this
  refine Ev.congr (fun k => if_pos (by omega)) (Ev.bind (ev_eq (word_f 1 (by decide))) ?_)
  rw [start_f c]
  exact Ev.bind (ev_eq e1) (l0_ev (by omega) h1 h2 r0 _ _ (Nat.le_refl _) s.1 s.2 (by omega))
 ·refine Ev.congr (fun k => if_neg (by omega)) ?_
  obtain ⟨k, hk⟩ : ∃ k, k = bl a / 4 := ⟨_, rfl⟩
  have t1 : wrap64 (Int.tdiv ((bl a : Nat) : Int) 4) = ((k : Nat) : Int) := by
   rw [show Int.tdiv ((bl a : Nat) : Int) 4 = ((bl a / 4 : Nat) : Int) from (Int.ofNat_tdiv _ _).symm, ← hk]
   exact w64 (by omega) (by omega)
  have t2 : wrap64 (2 * ((k : Nat) : Int)) = ((2 * k : Nat) : Int) := by rw [w64 (by omega) (by omega)]; omega
  rw [t1, t2]
  obtain ⟨u, hu⟩ : ∃ u, u = a / 2^(2 * k) := ⟨_, rfl⟩
  obtain ⟨v, v1, v2⟩ := sqrt_ex u
  have dm := Nat.div_add_mod a (2^(2 * k))
  have ml := Nat.mod_lt a (Nat.two_pow_pos (2 * k))
  have pp : 2^(2 * k) = 2^k * 2^k := by rw [← Nat.pow_add]; congr 1; omega
  have bu : bl u = bl a - 2 * k := by
   have hne : a / 2^(2 * k) ≠ 0 := by
    rw [Nat.div_ne_zero_iff]
    refine ⟨Nat.pos_iff_ne_zero.1 (Nat.two_pow_pos _), Nat.le_trans (Nat.pow_le_pow_right (by decide) (by omega)) (bl_ge a0)⟩
   have := bl_shift a (2 * k) hne
   rw [hu]; omega
  have ev := root_small v1 v2 (by omega) (by omega)
  have e2 : nat_Shr.f (lb a) ((2 * k : Nat) : Int) = some (lb u, 0) := by rw [hu]; exact shr_f l1 (by omega)
  have v0 : v ≠ 0 := by
   rintro rfl
   have := bl_mono (show u ≤ 0 by omega)
   have : bl 0 = 0 := rfl
   omega
  have vlt : v < 4294967296 := sq_lt_of (by
   have q1 := bl_lt u
   have q2 : 2^(bl u) ≤ 2^64 := Nat.pow_le_pow_right (by decide) (by omega)
   have q3 : (2 : Nat)^64 = 4294967296 * 4294967296 := by decide
   omega)
  obtain ⟨x, hx⟩ : ∃ x, x = (v + 1) * 2^k := ⟨_, rfl⟩
  have xx : x * x = (v + 1) * (v + 1) * 2^(2 * k) := by rw [hx, pp]; ac_rfl
  have x1 : r < x := by
   refine sq_lt_of ?_
   rw [xx]
   have q : (u + 1) * 2^(2 * k) ≤ (v + 1) * (v + 1) * 2^(2 * k) := Nat.mul_le_mul_right _ (by omega)
   rw [Nat.add_mul, Nat.one_mul, hu, Nat.mul_comm (a / _)] at q
   omega
  have x2 : x * x ≤ 4 * a := by
   rw [xx]
   have q1 : (v + 1) * (v + 1) ≤ 4 * u := by
    have q2 : (v + 1) * (v + 1) ≤ (2 * v) * (2 * v) := Nat.mul_self_le_mul_self (by omega)
    have q3 : (2 * v) * (2 * v) = 4 * (v * v) := by rw [show (4 : Nat) = 2 * 2 from rfl]; ac_rfl
    omega
   have q4 : (v + 1) * (v + 1) * 2^(2 * k) ≤ 4 * u * 2^(2 * k) := Nat.mul_le_mul_right _ q1
   have q5 : 4 * u * 2^(2 * k) = 4 * (2^(2 * k) * (a / 2^(2 * k))) := by rw [hu]; ac_rfl
   omega
  have abig : 4 < a := by
   have := bl_ge a0
   have q : 2^64 ≤ 2^(bl a - 1) := Nat.pow_le_pow_right (by decide) (by omega)
   have : (2 : Nat)^64 = 18446744073709551616 := by decide
   omega
  have x3 : x ≤ a := by
   refine Nat.le_of_not_lt fun q => ?_
   have q1 : a * a < x * x := sq_lt q
   have q2 : 5 * a ≤ a * a := Nat.mul_le_mul_right _ abig
   omega
  have x4 : x < 18446744073709551616 := by
   refine sq_lt_of ?_
   have q1 := bl_lt a
   have q2 : 2^(bl a) ≤ 2^124 := Nat.pow_le_pow_right (by decide) (by omega)
   have q3 : 4 * (2 : Nat)^124 < 18446744073709551616 * 18446744073709551616 := by decide
   omega
  have e3 : nat_Add.f (lb v) (lb 1) = some (lb (v + 1), 0) := add_f (by rw [nl_one v0 (by omega)]; decide) (by decide) (by rw [nl_one (by omega) (by omega)]; decide)
  have e4 : nat_Shl.f (lb (v + 1)) ((k : Nat) : Int) = some (lb x, 0) := by
   rw [hx]
   exact shl_f (by rw [nl_one (by omega) (by omega)]; decide) (.inr (by
    have c33 : (2 : Nat)^33 = 8589934592 := by decide
    have : bl (v + 1) ≤ 33 := bl_le_of_lt (by omega)
    omega))
  refine Ev.bind (ev_eq e2) (Ev.bind ev (Ev.bind (ev_eq (word_f 1 (by decide))) (Ev.bind (ev_eq e3) (Ev.bind (ev_eq e4) ?_))))
  exact l0_ev (by omega) h1 h2 r0 _ _ (Nat.le_refl _) (by omega) x3 x4
theorem Root_ev {a r : Nat} (h1 : r * r ≤ a) (h2 : a < (r + 1) * (r + 1)) (hn : 2 ≤ bl a) (hn2 : bl a ≤ 124) : Ev (fun k => natdiv_Root.f k (lb a)) (lb r, lb (a - r * r), 0) := by
 have l1 : nl a ≤ 8192 := nl_of_bl (by omega)
 have lr : nl r ≤ 8192 := Nat.le_trans (nl_mono (show r ≤ a by
  rcases Nat.eq_zero_or_pos r with c | c
  ·omega
  ·have := Nat.le_mul_of_pos_left r c; omega)) l1
 have ls : nl (r * r) ≤ 8192 := Nat.le_trans (nl_mono h1) l1
 have l3 : nl r < 40 := by
  have : bl r ≤ 124 := Nat.le_trans (bl_mono (show r ≤ a by
   rcases Nat.eq_zero_or_pos r with c | c
   ·omega
   ·have := Nat.le_mul_of_pos_left r c; omega)) hn2
  unfold nl; omega
 unfold natdiv_Root.f natmul_Sqr.f
 refine Ev.bind (ev_eq (natForm_t l1)) (Ev.congr (fun k => if_pos rfl) (Ev.bind (root_ev h1 h2 hn hn2) ?_))
 simp only [natmul_f lr lr (.inl l3) ls, Option.bind_some, sub_f l1 ls h1]
 exact Ev.now _
theorem sticky_f {q r : Nat} (hq : bl q ≤ 500000) (hr : nl r ≤ 8192) : round_sticky.f (lb q) (lb r) = some (lb (stk q r)) := by
 have lq : nl q ≤ 8192 := nl_of_bl (by omega)
 have e1 : nat_Shl.f (lb q) 1 = some (lb (q * 2), 0) := by
  have := shl_f (m := q) (n := 1) lq (.inr (by omega))
  rwa [Nat.pow_one] at this
 have b2 : bl (q * 2) ≤ 500002 := by
  have := bl_mul2 hq (show bl 2 ≤ 2 by decide)
  exact this
 unfold round_sticky.f
 rw [e1]
 simp only [Option.bind_some]
 by_cases c : r = 0
 ·rw [if_neg (by rw [lb_len, c]; decide)]
  unfold stk
  rw [if_pos c, Nat.add_zero, Nat.mul_comm]
 ·have := nl_pos c
  have b3 : bl (q * 2 + 1) ≤ 500003 := bl_add b2 (show bl 1 ≤ 500002 by decide)
  have wf : nat_Word.f 1 = some (lb 1) := word_f 1 (by decide)
  rw [if_pos (by rw [lb_len]; omega), wf]
  simp only [Option.bind_some]
  rw [add_f (nl_of_bl (by omega)) (by decide) (nl_of_bl (by omega))]
  simp only [Option.bind_some]
  unfold stk
  rw [if_neg c, Nat.mul_comm]
end Go.Proofs.YtokoadgahflafaaGreatDoor.Sf4
