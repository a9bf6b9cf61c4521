/- Roots and comparisons of layer 9's numbers; what Div, Sqrt and Compare answer: plain Lean over the functions. Conditions: formats. -/
import Derived.Test.YtokoadgahflafaaGreatDoorKSoftThroughDoubleSf5
set_option linter.unusedVariables false
namespace Go.Proofs.YtokoadgahflafaaGreatDoor.Sf6
open Go.RowKit Go.Proofs.YtokoadgahflafaaGreatDoorW.PrintWords Go.Proofs.YtokoadgahflafaaGreatDoorW.PrintMore Go.Proofs.YtokoadgahflafaaGreatDoor.Num Go.Proofs.YtokoadgahflafaaGreatDoor.PLib Go.Proofs.YtokoadgahflafaaGreatDoor.Ref Go.Proofs.YtokoadgahflafaaGreatDoor.GTh Go.Proofs.YtokoadgahflafaaGreatDoor.Given Go.Proofs.YtokoadgahflafaaGreatDoor.Rp1 Go.Proofs.YtokoadgahflafaaGreatDoor.Rp2 Go.Proofs.YtokoadgahflafaaGreatDoor.Rp3 Go.Proofs.YtokoadgahflafaaGreatDoor.Rp4 Go.Proofs.YtokoadgahflafaaGreatDoor.Rp5 Go.Proofs.YtokoadgahflafaaGreatDoor.Rp7 Go.Proofs.YtokoadgahflafaaGreatDoor.BinLaw Go.Proofs.YtokoadgahflafaaGreatDoor.Fm8 Go.Proofs.YtokoadgahflafaaGreatDoor.Rnd Go.Proofs.YtokoadgahflafaaGreatDoor.Sq Go.Proofs.YtokoadgahflafaaGreatDoor.Px Go.Proofs.YtokoadgahflafaaGreatDoor.Sf1 Go.Proofs.YtokoadgahflafaaGreatDoor.Sf2 Go.Proofs.YtokoadgahflafaaGreatDoor.Sf3 Go.Proofs.YtokoadgahflafaaGreatDoor.Sf4 Go.Proofs.YtokoadgahflafaaGreatDoor.Sf5
theorem nr_cross {F : Fmt} {n d n' d' s : Nat} (hd : 0 < d) (hd' : 0 < d') (e : n * d' = n' * d) (h : Nr F n d s) : Nr F n' d' s := by
 have k1 : ∀ M : Nat, 4 * n * d' = 4 * n' * d := fun M => by rw [Nat.mul_assoc, e, ← Nat.mul_assoc]
 have up : ∀ M : Nat, 4 * n < M * d → 4 * n' < M * d' := fun M q => by
  have a := Nat.mul_lt_mul_of_pos_right q hd'
  rw [k1 0, Nat.mul_right_comm M d d'] at a
  exact Nat.lt_of_mul_lt_mul_right a
 have eq : ∀ M : Nat, 4 * n = M * d → 4 * n' = M * d' := fun M q => by
  have a : 4 * n * d' = M * d * d' := by rw [q]
  rw [k1 0, Nat.mul_right_comm M d d'] at a
  exact Nat.eq_of_mul_eq_mul_right hd a
 have dn : ∀ M : Nat, M * d < 4 * n → M * d' < 4 * n' := fun M q => by
  have a := Nat.mul_lt_mul_of_pos_right q hd'
  rw [k1 0, Nat.mul_right_comm M d d'] at a
  exact Nat.lt_of_mul_lt_mul_right a
 refine ⟨h.le, fun c => ?_, fun t c => ?_⟩
 ·rcases h.up c with q | ⟨q, q2⟩
  ·exact .inl (up _ q)
  ·exact .inr ⟨eq _ q, q2⟩
 ·rcases h.dn t c with q | ⟨q, q2⟩
  ·exact .inl (dn _ q)
  ·exact .inr ⟨(eq _ q.symm).symm, q2⟩
theorem tmod2 (y : Int) : (Int.tmod y 2 = 0 ∧ ∃ z, y = 2 * z ∧ Int.tdiv y 2 = z) ∨ (Int.tmod y 2 ≠ 0 ∧ ∃ z, y = 2 * z + 1) := by
 rcases Int.emod_two_eq y with c | c
 ·left
  obtain ⟨z, hz⟩ : ∃ z, y = 2 * z := ⟨y / 2, by omega⟩
  refine ⟨by rw [hz]; exact Int.mul_tmod_right 2 z, z, hz, by rw [hz]; exact Int.mul_tdiv_cancel_left z (by decide)⟩
 ·right
  refine ⟨fun e => ?_, y / 2, by omega⟩
  have := Int.dvd_of_tmod_eq_zero e
  omega
theorem root_core {f : Int} {F : Fmt} (h : Fm f F) {E : Int} {m : Nat} {x : Int} {V S : Nat} {z : Int} (hv : V = m * 2^(x - E).toNat) (hEF : E = F.low) (hx : E ≤ x) (hx2 : x ≤ 4000) (m0 : m ≠ 0) (hS1 : 2 * F.man + 6 ≤ bl m + S) (hS2 : bl m + S ≤ 124) (hz : x - (S : Int) = 2 * z) :
  ∃ q r s, Nr F (V * 2^(-F.low).toNat) 1 s ∧ Ev (fun k => natdiv_Root.f k (lb (m * 2^S))) (lb q, lb r, 0) ∧ round_sticky.f (lb q) (lb r) = some (lb (stk q r)) ∧ Ev (fun k => round_widths_size.f k (F.man : Nat) F.low ((F.wd - 1 : Nat) : Int) (lb (stk q r)) (z - 1)) ((s : Nat) : Int) := by
 obtain ⟨N, hN⟩ : ∃ N, N = m * 2^S := ⟨_, rfl⟩
 have bN : bl N = bl m + S := by rw [hN, bl_mul _ _ m0]
 have N0 : N ≠ 0 := by rw [hN]; exact Nat.mul_ne_zero m0 (Nat.pos_iff_ne_zero.1 (Nat.two_pow_pos S))
 obtain ⟨q, q1, q2⟩ := sqrt_ex N
 rw [← hN]
 have HN := Lib.hid hN
 have HV := Lib.hid hv
 clear hN hv
 have hl := low_rng h
 have hfm := fm_man h
 have e := Root_ev q1 q2 (by omega) (by omega)
 have hq : 2^(F.man + 2) ≤ q := by
  refine Nat.le_of_not_lt fun c => ?_
  have c1 : (q + 1) * (q + 1) ≤ 2^(F.man + 2) * 2^(F.man + 2) := Nat.mul_self_le_mul_self (by omega)
  rw [← Nat.pow_add] at c1
  have c2 := bl_ge N0
  have c3 : 2^(F.man + 2 + (F.man + 2)) ≤ 2^(bl N - 1) := Nat.pow_le_pow_right (by decide) (by omega)
  omega
 have qN : q ≤ N := by
  rcases Nat.eq_zero_or_pos q with c | c
  ·omega
  ·have := Nat.le_mul_of_pos_left q c; omega
 have bq : bl q ≤ 124 := Nat.le_trans (bl_mono qN) (by omega)
 have lr : nl (N - q * q) ≤ 8192 := Nat.le_trans (nl_mono (Nat.sub_le _ _)) (nl_of_bl (by omega))
 have st := sticky_f (q := q) (r := N - q * q) (by omega) lr
 have st0 : stk q (N - q * q) ≠ 0 := by
  unfold stk
  have := Nat.two_pow_pos (F.man + 2)
  omega
 have bs : bl (stk q (N - q * q)) ≤ 500003 := by
  have : stk q (N - q * q) ≤ q * 2 + 1 := by unfold stk; split <;> omega
  exact Nat.le_trans (bl_mono this) (bl_add (bl_mul2 (show bl q ≤ 500000 by omega) (show bl 2 ≤ 2 by decide)) (show bl 1 ≤ 500002 by decide))
 obtain ⟨E', hE'⟩ : ∃ E' : Int, E' = min (z - 1) F.low := ⟨_, rfl⟩
 have sz := size_ev h st0 (nl_of_bl (by omega)) (x := z - 1) (E := E') ⟨by omega, by omega⟩ (by omega) (by omega)
 have ns := rsz_nst h (F.low - E').toNat (stk q (N - q * q) * 2^(z - 1 - E').toNat)
 refine ⟨q, N - q * q, _, ?_, e, st, sz⟩
 have r := stk_root h q1 q2 hq ns
 refine nr_cross (Nat.mul_pos (Nat.two_pow_pos _) (Nat.two_pow_pos _)) (by decide) ?_ r
 rw [HV.out, HN.out, Nat.mul_one]
 have e1 : m * 2^S * (2^((z - 1 - E').toNat + 1) * 2^((z - 1 - E').toNat + 1)) = m * 2^(S + (((z - 1 - E').toNat + 1) + ((z - 1 - E').toNat + 1))) := by rw [Nat.pow_add 2 S _, Nat.pow_add 2 ((z - 1 - E').toNat + 1) _]; ac_rfl
 have e2 : m * 2^(x - E).toNat * 2^(-F.low).toNat * (2^(F.low - E').toNat * 2^(F.low - E').toNat) = m * 2^((x - E).toNat + (-F.low).toNat + ((F.low - E').toNat + (F.low - E').toNat)) := by
  rw [Nat.pow_add 2 ((x - E).toNat + (-F.low).toNat) _, Nat.pow_add 2 (x - E).toNat _, Nat.pow_add 2 (F.low - E').toNat _]; ac_rfl
 rw [e1, e2]
 clear e1 e2 r ns sz
 congr 2
 omega
theorem rootN_ev {f : Int} {F : Fmt} (h : Fm f F) {m : Nat} {x V : Int} (d : Dy F.low false m x V) (v0 : V ≠ 0) (hm : bl m ≤ 53) (hV : bl V.natAbs ≤ 3000) :
  ∃ s, Nr F (V.natAbs * 2^(-F.low).toNat) 1 s ∧ Ev (fun k => round_Root.f k f false (lb m) x) (((s : Nat) : Int), 0) := by
 have m0 : m ≠ 0 := fun e => v0 (d.zero.1 e)
 have b1 := d.bl m0
 have x1 := d.le
 have hl := low_rng h
 have hfm := fm_man h
 have p1 := bl_pos m0
 have HD := Lib.hid d.abs
 obtain ⟨S, hS⟩ : ∃ S : Nat, S = 2 * F.man + 6 - bl m := ⟨_, rfl⟩
 have s1 : mx 0 (wrap64 ((wrap64 ((wrap64 (2 * ((F.man : Nat) : Int))) + 6)) - ((bl m : Nat) : Int))) = ((S : Nat) : Int) := by
  rw [mx_max, w64 (x := 2 * ((F.man : Nat) : Int)) (by omega) (by omega), w64 (x := 2 * ((F.man : Nat) : Int) + 6) (by omega) (by omega), w64 (by omega) (by omega)]
  omega
 have s2 : wrap64 (x - ((S : Nat) : Int)) = x - (S : Int) := w64 (by omega) (by omega)
 have s3 : wrap64 (((S : Nat) : Int) + 1) = ((S + 1 : Nat) : Int) := by rw [w64 (by omega) (by omega)]; omega
 have s4 : wrap64 (x - ((S + 1 : Nat) : Int)) = x - ((S + 1 : Nat) : Int) := w64 (by omega) (by omega)
 have l1 := nl_pos m0
 have l3 : nl m ≤ 4096 := by unfold nl; omega
 rcases tmod2 (x - (S : Int)) with ⟨t0, z, hz, tz⟩ | ⟨t0, z, hz⟩
 ·obtain ⟨q, r, s, hs, e1, e2, e3⟩ := root_core h HD.out rfl x1 (by omega) m0 (by omega) (by omega) hz
  refine ⟨s, hs, ?_⟩
  have w : wrap64 ((wrap64 z) - 1) = z - 1 := by rw [w64 (x := z) (by omega) (by omega), w64 (by omega) (by omega)]
  unfold round_Root.f
  rw [of_f h]
  refine Ev.congr (fun k => if_neg (by rw [fm_ne h]; decide)) ?_
  refine Ev.bind (form_dk d.dk) (Ev.congr (fun k => if_pos rfl) (Ev.congr (fun k => if_neg (by decide)) ?_))
  refine Ev.bind (ev_eq (long_f false x l3)) (Ev.congr (fun k => if_neg (by decide)) (Ev.congr (fun k => if_neg (by rw [lb_len]; omega)) ?_))
  refine Ev.bind (ev_eq (bits_f d.dk.lim)) ?_
  dsimp only
  rw [s1, s2]
  refine Ev.congr (fun k => if_pos t0) ?_
  refine Ev.bind (ev_eq (shl_f d.dk.lim (n := S) (.inr (by omega)))) ?_
  refine Ev.bind e1 (Ev.bind (ev_eq e2) ?_)
  rw [tz, w]
  exact Ev.bind e3 (Ev.now _)
 ·obtain ⟨q, r, s, hs, e1, e2, e3⟩ := root_core h HD.out rfl x1 (by omega) m0 (S := S + 1) (z := z) (by omega) (by omega) (by omega)
  refine ⟨s, hs, ?_⟩
  have tz : Int.tdiv (x - ((S + 1 : Nat) : Int)) 2 = z := by
   rw [show x - ((S + 1 : Nat) : Int) = 2 * z by omega]
   exact Int.mul_tdiv_cancel_left z (by decide)
  have w : wrap64 ((wrap64 z) - 1) = z - 1 := by rw [w64 (x := z) (by omega) (by omega), w64 (by omega) (by omega)]
  unfold round_Root.f
  rw [of_f h]
  refine Ev.congr (fun k => if_neg (by rw [fm_ne h]; decide)) ?_
  refine Ev.bind (form_dk d.dk) (Ev.congr (fun k => if_pos rfl) (Ev.congr (fun k => if_neg (by decide)) ?_))
  refine Ev.bind (ev_eq (long_f false x l3)) (Ev.congr (fun k => if_neg (by decide)) (Ev.congr (fun k => if_neg (by rw [lb_len]; omega)) ?_))
  refine Ev.bind (ev_eq (bits_f d.dk.lim)) ?_
  dsimp only
  rw [s1, s2]
  refine Ev.congr (fun k => if_neg t0) ?_
  rw [s3, s4]
  refine Ev.bind (ev_eq (shl_f d.dk.lim (n := S + 1) (.inr (by omega)))) ?_
  refine Ev.bind e1 (Ev.bind (ev_eq e2) ?_)
  rw [tz, w]
  exact Ev.bind e3 (Ev.now _)
def QuoR (F : Fmt) : Vl → Vl → Nat → Prop
 | .num V, .num W, r => ∃ s, Nq F (V.natAbs * 2^(-F.low).toNat) W.natAbs s ∧ r = pat F (decide (V < 0) != decide (W < 0)) s
 | .nan, _, r => r = F.qt
 | _, .nan, r => r = F.qt
 | .inf _, .inf _, r => r = F.qt
 | .nou _, .nou _, r => r = F.qt
 | .inf a, w, r => r = pat F (a != sgV w) F.inf
 | v, .inf b, r => r = pat F (sgV v != b) 0
 | v, .nou b, r => r = pat F (sgV v != b) F.inf
 | .nou a, w, r => r = pat F (a != sgV w) 0
theorem div_ev {f : Int} {F : Fmt} (h : Fm f F) {a b : Nat} (ha : a < 2 * F.sg) (hb : b < 2 * F.sg) : ∃ r : Nat, QuoR F (rdB F a) (rdB F b) r ∧ Ev (fun k => soft_Div.f k f (a : Int) (b : Int)) ((r : Int), 0) := by
 obtain ⟨x, y, hx, hy, e⟩ := pair_ev h ha hb
 have hl := low_rng h
 have b1 := blV_rdB h a
 have b2 := blV_rdB h b
 have tl : ∀ {v : Vl} {o : Opd}, OdE F.low 53 v o → Ev (fun k => soft_tell.f k f o) (((tellV F 0 v : Nat) : Int), 0) := fun hr => by
  have t := tell_ev h (Int.le_refl _) hr
  rw [Int.sub_self] at t
  exact t
 unfold soft_Div.f
 generalize rdB F a = v at *
 generalize rdB F b = w at *
 cases v with
 | nan =>
  obtain rfl := hx
  refine ⟨F.qt, by cases w <;> rfl, Ev.bind e (Ev.congr (fun k => if_pos rfl) ?_)⟩
  have t : Ev (fun k => soft_tell.f k f .nan) (((F.qt : Nat) : Int), 0) := tl (v := .nan) rfl
  cases w with
  | nan => obtain rfl := hy; exact Ev.bind t (Ev.now _)
  | inf n => obtain rfl := hy; exact Ev.bind t (Ev.now _)
  | nou n => obtain rfl := hy; exact Ev.bind t (Ev.now _)
  | num W => obtain ⟨n, m, z, rfl, d, w0, bm⟩ := hy; exact Ev.bind t (Ev.now _)
 | inf s =>
  obtain rfl := hx
  cases w with
  | nan => obtain rfl := hy; exact ⟨F.qt, rfl, Ev.bind e (Ev.congr (fun k => if_pos rfl) (Ev.bind (tl (v := .nan) rfl) (Ev.now _)))⟩
  | inf n => obtain rfl := hy; exact ⟨F.qt, rfl, Ev.bind e (Ev.congr (fun k => if_pos rfl) (Ev.bind (tl (v := .nan) rfl) (Ev.now _)))⟩
  | nou n => obtain rfl := hy; exact ⟨_, rfl, Ev.bind e (Ev.congr (fun k => if_pos rfl) (Ev.bind (tl (v := .inf (s != n)) rfl) (Ev.now _)))⟩
  | num W =>
   obtain ⟨n, m, z, rfl, d, w0, bm⟩ := hy
   obtain rfl := d.neg
   exact ⟨_, rfl, Ev.bind e (Ev.congr (fun k => if_pos rfl) (Ev.bind (tl (v := .inf (s != decide (W < 0))) rfl) (Ev.now _)))⟩
 | nou s =>
  obtain rfl := hx
  cases w with
  | nan => obtain rfl := hy; exact ⟨F.qt, rfl, Ev.bind e (Ev.congr (fun k => if_pos rfl) (Ev.bind (tl (v := .nan) rfl) (Ev.now _)))⟩
  | inf n => obtain rfl := hy; exact ⟨_, rfl, Ev.bind e (Ev.congr (fun k => if_pos rfl) (Ev.bind (tl (v := .nou (s != n)) rfl) (Ev.now _)))⟩
  | nou n => obtain rfl := hy; exact ⟨F.qt, rfl, Ev.bind e (Ev.congr (fun k => if_pos rfl) (Ev.bind (tl (v := .nan) rfl) (Ev.now _)))⟩
  | num W =>
   obtain ⟨n, m, z, rfl, d, w0, bm⟩ := hy
   obtain rfl := d.neg
   exact ⟨_, rfl, Ev.bind e (Ev.congr (fun k => if_pos rfl) (Ev.bind (tl (v := .nou (s != decide (W < 0))) rfl) (Ev.now _)))⟩
 | num V =>
  obtain ⟨n, m, z, rfl, d, v0, bm⟩ := hx
  have hn := d.neg
  cases w with
  | nan => obtain rfl := hy; exact ⟨F.qt, rfl, Ev.bind e (Ev.congr (fun k => if_pos rfl) (Ev.bind (tl (v := .nan) rfl) (Ev.now _)))⟩
  | inf s => obtain rfl := hy; subst hn; exact ⟨_, rfl, Ev.bind e (Ev.congr (fun k => if_pos rfl) (Ev.bind (tl (v := .nou (decide (V < 0) != s)) rfl) (Ev.now _)))⟩
  | nou s => obtain rfl := hy; subst hn; exact ⟨_, rfl, Ev.bind e (Ev.congr (fun k => if_pos rfl) (Ev.bind (tl (v := .inf (decide (V < 0) != s)) rfl) (Ev.now _)))⟩
  | num W =>
   obtain ⟨n', m', z', rfl, d', w0, bm'⟩ := hy
   have b1 : bl V.natAbs ≤ 2101 := b1
   have b2 : bl W.natAbs ≤ 2101 := b2
   obtain ⟨s, hs, q⟩ := quot_ev h d d' v0 w0 bm bm' (by omega) (by omega) (by omega) (by omega)
   exact ⟨_, ⟨s, hs, rfl⟩, Ev.bind e (Ev.congr (fun k => if_pos rfl) (Ev.bind q (Ev.now _)))⟩
def RootR (F : Fmt) : Vl → Nat → Prop
 | .num V, r => (V < 0 ∧ r = F.qt) ∨ (0 < V ∧ ∃ s, Nr F (V.natAbs * 2^(-F.low).toNat) 1 s ∧ r = s)
 | .nan, r => r = F.qt
 | .inf a, r => r = if a then F.qt else F.inf
 | .nou a, r => r = pat F a 0
theorem sqrt_ev {f : Int} {F : Fmt} (h : Fm f F) {a : Nat} (ha : a < 2 * F.sg) : ∃ r : Nat, RootR F (rdB F a) r ∧ Ev (fun k => soft_Sqrt.f k f (a : Int)) ((r : Int), 0) := by
 obtain ⟨x, hx, e⟩ := readB_ev h ha
 have b1 := blV_rdB h a
 have tl : ∀ {v : Vl} {o : Opd}, OdE F.low 53 v o → Ev (fun k => soft_tell.f k f o) (((tellV F 0 v : Nat) : Int), 0) := fun hr => by
  have t := tell_ev h (Int.le_refl _) hr
  rw [Int.sub_self] at t
  exact t
 have qt : Ev (fun _ : Nat => binary_Quiet.f f) (((F.qt : Nat) : Int), 0) := ev_eq (quiet_f h)
 unfold soft_Sqrt.f
 generalize rdB F a = v at *
 cases v with
 | nan => obtain rfl := hx; exact ⟨F.qt, rfl, Ev.bind e (Ev.congr (fun k => if_pos rfl) (Ev.bind qt (Ev.now _)))⟩
 | inf s =>
  obtain rfl := hx
  cases s
  ·exact ⟨F.inf, rfl, Ev.bind e (Ev.congr (fun k => if_pos rfl) (Ev.bind (tl (v := .inf false) rfl) (Ev.now _)))⟩
  ·exact ⟨F.qt, rfl, Ev.bind e (Ev.congr (fun k => if_pos rfl) (Ev.bind qt (Ev.now _)))⟩
 | nou s => obtain rfl := hx; exact ⟨_, rfl, Ev.bind e (Ev.congr (fun k => if_pos rfl) (Ev.bind (tl (v := .nou s) rfl) (Ev.now _)))⟩
 | num V =>
  obtain ⟨n, m, z, rfl, d, v0, bm⟩ := hx
  have hn := d.neg
  have b1 : bl V.natAbs ≤ 2101 := b1
  by_cases c : V < 0
  ·rw [decide_eq_true c] at hn
   subst hn
   exact ⟨F.qt, .inl ⟨c, rfl⟩, Ev.bind e (Ev.congr (fun k => if_pos rfl) (Ev.bind qt (Ev.now _)))⟩
  ·rw [decide_eq_false c] at hn
   subst hn
   obtain ⟨s, hs, q⟩ := rootN_ev h d v0 bm (by omega)
   exact ⟨s, .inr ⟨by omega, s, hs, rfl⟩, Ev.bind e (Ev.congr (fun k => if_pos rfl) (Ev.bind q (Ev.now _)))⟩
end Go.Proofs.YtokoadgahflafaaGreatDoor.Sf6
