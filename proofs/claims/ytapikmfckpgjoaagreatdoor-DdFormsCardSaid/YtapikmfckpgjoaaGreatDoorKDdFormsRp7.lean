/- Sums, differences, twins and scaled numbers of dyadics: their values. Plain Lean over the printed functions. Conditions: values of at most 500,000 bits above the lowest unit. -/
import Derived.Test.YtapikmfckpgjoaaGreatDoorKDdFormsRp5
import Derived.Test.YtapikmfckpgjoaaGreatDoorKDdFormsPxL1
set_option linter.unusedVariables false
namespace Go.Proofs.YtapikmfckpgjoaaGreatDoor.Rp7
open Go.RowKit Go.Proofs.YtapikmfckpgjoaaGreatDoorW.PrintWords Go.Proofs.YtapikmfckpgjoaaGreatDoorW.PrintMore Go.Proofs.YtapikmfckpgjoaaGreatDoor.Num Go.Proofs.YtapikmfckpgjoaaGreatDoor.PLib Go.Proofs.YtapikmfckpgjoaaGreatDoor.Ref Go.Proofs.YtapikmfckpgjoaaGreatDoor.GTh Go.Proofs.YtapikmfckpgjoaaGreatDoor.Given Go.Proofs.YtapikmfckpgjoaaGreatDoor.Rp1 Go.Proofs.YtapikmfckpgjoaaGreatDoor.Rp2 Go.Proofs.YtapikmfckpgjoaaGreatDoor.Rp3 Go.Proofs.YtapikmfckpgjoaaGreatDoor.Rp4 Go.Proofs.YtapikmfckpgjoaaGreatDoor.Rp5 Go.Proofs.YtapikmfckpgjoaaGreatDoor.BinLaw Go.Proofs.YtapikmfckpgjoaaGreatDoor.Fm8 Go.Proofs.YtapikmfckpgjoaaGreatDoor.Rnd
def sv (neg : Bool) (m : Nat) : Int := if neg then -(m : Int) else (m : Int)
theorem vs_sv (neg : Bool) (m : Nat) (x E : Int) : vs neg m x E = sv neg (m * 2^(x - E).toNat) := rfl
theorem sv_mul (neg : Bool) (m p : Nat) : sv neg (m * p) = sv neg m * (p : Int) := by
 cases neg
 ·show ((m * p : Nat) : Int) = (m : Int) * p; omega
 ·show -((m * p : Nat) : Int) = -(m : Int) * p; rw [Int.neg_mul]; omega
theorem sv_abs (neg : Bool) (m : Nat) : (sv neg m).natAbs = m := by
 cases neg
 ·show (m : Int).natAbs = m; omega
 ·show (-(m : Int)).natAbs = m; omega
theorem sv_zero (neg : Bool) : sv neg 0 = 0 := by cases neg <;> rfl
structure Dy (E : Int) (neg : Bool) (m : Nat) (x V : Int) : Prop where mk :: (dk : Dk neg m x) (le : E ≤ x) (va : vs neg m x E = V)
theorem Dy.abs {E : Int} {neg : Bool} {m : Nat} {x V : Int} (h : Dy E neg m x V) : V.natAbs = m * 2^(x - E).toNat := by rw [← h.va, vs_sv, sv_abs]
theorem Dy.zero {E : Int} {neg : Bool} {m : Nat} {x V : Int} (h : Dy E neg m x V) : m = 0 ↔ V = 0 := by
 have e := h.abs
 have hp := Nat.two_pow_pos (x - E).toNat
 constructor
 ·intro c; rw [c, Nat.zero_mul] at e; omega
 ·intro c
  rw [c] at e
  rcases Nat.mul_eq_zero.1 e.symm with c1 | c1
  ·exact c1
  ·omega
theorem Dy.bl {E : Int} {neg : Bool} {m : Nat} {x V : Int} (h : Dy E neg m x V) (h0 : m ≠ 0) : bl m + (x - E).toNat = bl V.natAbs := by rw [h.abs, bl_mul _ _ h0]
theorem Dy.neg {E : Int} {neg : Bool} {m : Nat} {x V : Int} (h : Dy E neg m x V) : neg = decide (V < 0) := by
 have e := h.va
 have z := h.zero
 have a := h.abs
 rw [vs_sv] at e
 cases neg
 ·rw [decide_eq_false]
  show ¬ V < 0
  have : sv false (m * 2^(x - E).toNat) = ((m * 2^(x - E).toNat : Nat) : Int) := rfl
  omega
 ·rw [decide_eq_true]
  have m0 : m ≠ 0 := fun c => absurd (h.dk.zero c).1 (by decide)
  have : sv true (m * 2^(x - E).toNat) = -((m * 2^(x - E).toNat : Nat) : Int) := rfl
  have v0 : V ≠ 0 := fun c => m0 (z.2 c)
  omega
theorem nl_of_bl {m : Nat} (h : bl m ≤ 524288) : nl m ≤ 8192 := by unfold nl; omega
theorem Dy.uniq {E : Int} {neg neg' : Bool} {m m' : Nat} {x x' V : Int} (h : Dy E neg m x V) (h' : Dy E neg' m' x' V) : neg = neg' ∧ m = m' ∧ x = x' := by
 refine ⟨h.neg.trans h'.neg.symm, ?_⟩
 by_cases c : m = 0
 ·have c' := h'.zero.2 (h.zero.1 c)
  rw [c, c', (h.dk.zero c).2, (h'.dk.zero c').2]
  exact ⟨rfl, rfl⟩
 have c' : m' ≠ 0 := fun e => c (h.zero.2 (h'.zero.1 e))
 have o := h.dk.odd c
 have o' := h'.dk.odd c'
 have e : 2^(x - E).toNat * m = 2^(x' - E).toNat * m' := by rw [Nat.mul_comm, ← h.abs, h'.abs, Nat.mul_comm]
 have t : (x - E).toNat = (x' - E).toNat := tz_uniq (x := 2^(x - E).toNat * m) ⟨m / 2, by congr 1; omega⟩ ⟨m' / 2, by rw [e]; congr 1; omega⟩
 rw [t] at e
 have := h.le
 have := h'.le
 exact ⟨Nat.eq_of_mul_eq_mul_left (Nat.two_pow_pos _) e, by omega⟩
theorem make_dy {neg : Bool} {m : Nat} {x E V : Int} (hl : nl m ≤ 8192) (hz : m = 0 → neg = false) (h1 : -1048576 ≤ E) (h0 : E ≤ 0) (hE : E ≤ x) (hv : vs neg m x E = V) (hb : bl V.natAbs ≤ 1000000) :
  ∃ n m' x', Dy E n m' x' V ∧ Ev (fun k => dyadic_Make.f k neg (lb m) x) (n, lb m', x', 0) := by
 unfold dyadic_Make.f
 rw [numForm_lb hl hz]
 simp only [Option.bind_some, if_true]
 by_cases m0 : m = 0
 ·subst m0
  refine ⟨false, 0, 0, ⟨⟨by decide, fun _ => ⟨rfl, rfl⟩, fun c => absurd rfl c, by decide, by decide⟩, h0, ?_⟩, ?_⟩
  ·rw [← hv, vs_sv, vs_sv, Nat.zero_mul, Nat.zero_mul, sv_zero, sv_zero]
  ·exact Ev.congr (fun k => if_pos rfl) (Ev.now _)
 obtain ⟨c, hc⟩ := tz_spec m0
 have ha : bl m + (x - E).toNat = bl V.natAbs := by rw [← bl_mul _ _ m0, ← hv, vs_sv, sv_abs]
 have ht : tz m < bl m := by
  rcases Nat.lt_or_ge (tz m) (bl m) with q | q
  ·exact q
  ·have := bl_lt m
   have := Nat.pow_le_pow_right (n := 2) (by decide) q
   have := Nat.le_mul_of_pos_right (2^tz m) (show 0 < 2 * c + 1 by omega)
   omega
 have hm' : m / 2^tz m = 2 * c + 1 := by
  have : (2^tz m * (2 * c + 1)) / 2^tz m = 2 * c + 1 := Nat.mul_div_cancel_left _ (Nat.two_pow_pos _)
  rw [← hc] at this; exact this
 have p := nl_pos m0
 have w : wrap64 (x + ((tz m : Nat) : Int)) = x + (tz m : Nat) := w64 (by omega) (by omega)
 rw [trail_f hl m0]
 simp only [Option.bind_some]
 rw [w, lb_len]
 refine ⟨neg, m / 2^tz m, x + (tz m : Nat), ⟨⟨?_, fun e => by omega, fun _ => by omega, by omega, by omega⟩, by omega, ?_⟩, ?_⟩
 ·exact Nat.le_trans (nl_mono (Nat.div_le_self _ _)) hl
 ·rw [← hv, vs_sv, vs_sv, hm', show (x + ((tz m : Nat) : Int) - E).toNat = tz m + (x - E).toNat by omega, Nat.pow_add, ← Nat.mul_assoc, Nat.mul_comm (2 * c + 1), ← hc]
 ·refine Ev.congr (fun k => if_neg (by omega)) (Ev.congr (fun k => if_neg (by omega)) (Ev.congr (fun k => if_neg (by omega)) (Ev.congr (fun k => if_neg (by omega)) (Ev.succ ?_))))
  rw [decide_eq_false (by omega)]
  simp only [dyadic_Make.j0]
  rw [shr_f hl (by omega), w]
  exact Ev.now _
theorem cmp_f' {m n : Nat} (h : nl m ≤ 8192) (h' : nl n ≤ 8192) : nat_Cmp.f (lb m) (lb n) = some (cmI m n) := cmp_f (by omega) (by omega)
theorem sub_f {m n : Nat} (h : nl m ≤ 8192) (h' : nl n ≤ 8192) (h2 : n ≤ m) : nat_Sub.f (lb m) (lb n) = some (lb (m - n), 0) := by
 unfold nat_Sub.f
 rw [vL_lb, vL_lb, if_pos ⟨fmL_lb h, fmL_lb h', h2⟩]
theorem bl_add {a b k : Nat} (ha : bl a ≤ k) (hb : bl b ≤ k) : bl (a + b) ≤ k + 1 := by
 have q1 := Nat.lt_of_lt_of_le (bl_lt a) (Nat.pow_le_pow_right (by decide) ha)
 have q2 := Nat.lt_of_lt_of_le (bl_lt b) (Nat.pow_le_pow_right (by decide) hb)
 exact bl_le_of_lt (by rw [Nat.pow_succ]; omega)
theorem numAdd_f {neg neg' : Bool} {a b : Nat} (ha : bl a ≤ 524280) (hb : bl b ≤ 524280) (h0 : a = 0 → neg = false) (h0' : b = 0 → neg' = false) :
  ∃ n c, num_Add.f neg (lb a) neg' (lb b) = some (n, lb c, 0) ∧ (c = 0 → n = false) ∧ sv n c = sv neg a + sv neg' b ∧ nl c ≤ 8192 := by
 have la := nl_of_bl (m := a) (by omega)
 have lb' := nl_of_bl (m := b) (by omega)
 have lc : nl (a + b) ≤ 8192 := nl_of_bl (Nat.le_trans (bl_add ha hb) (by decide))
 unfold num_Add.f
 rw [numForm_lb la h0, numForm_lb lb' h0']
 simp only [Option.bind_some, if_true]
 by_cases c : neg = neg'
 ·subst c
  rw [if_pos rfl, add_f la lb' lc]
  simp only [Option.bind_some]
  rw [told_f]
  refine ⟨_, a + b, rfl, fun e => ?_, ?_, lc⟩
  ·rw [e]; simp
  ·by_cases z : a + b = 0
   ·rw [show a = 0 by omega, show b = 0 by omega, sv_zero, sv_zero]; rfl
   ·rw [decide_eq_true z, Bool.and_true]
    cases neg
    ·show ((a + b : Nat) : Int) = (a : Int) + b; omega
    ·show -((a + b : Nat) : Int) = -(a : Int) + -(b : Int); omega
 rw [if_neg c, cmp_f' la lb']
 simp only [Option.bind_some]
 by_cases q : a < b
 ·rw [if_pos (by unfold cmI; rw [if_pos q]; decide), sub_f lb' la (by omega)]
  simp only [Option.bind_some]
  rw [told_f]
  refine ⟨_, b - a, rfl, fun e => by omega, ?_, Nat.le_trans (nl_mono (by omega)) lc⟩
  rw [decide_eq_true (by omega), Bool.and_true]
  cases neg <;> cases neg'
  ·exact absurd rfl c
  ·show -((b - a : Nat) : Int) = (a : Int) + -(b : Int); omega
  ·show ((b - a : Nat) : Int) = -(a : Int) + (b : Int); omega
  ·exact absurd rfl c
 ·rw [if_neg (by unfold cmI; rw [if_neg q]; split <;> decide), sub_f la lb' (by omega)]
  simp only [Option.bind_some]
  rw [told_f]
  refine ⟨_, a - b, rfl, fun e => ?_, ?_, Nat.le_trans (nl_mono (by omega)) lc⟩
  ·rw [e]; simp
  ·by_cases z : a - b = 0
   ·have : a = b := by omega
    subst this
    rw [z, sv_zero]
    cases neg <;> cases neg'
    ·exact absurd rfl c
    ·show 0 = (a : Int) + -(a : Int); omega
    ·show 0 = -(a : Int) + (a : Int); omega
    ·exact absurd rfl c
   ·rw [decide_eq_true z, Bool.and_true]
    cases neg <;> cases neg'
    ·exact absurd rfl c
    ·show ((a - b : Nat) : Int) = (a : Int) + -(b : Int); omega
    ·show -((a - b : Nat) : Int) = -(a : Int) + (b : Int); omega
    ·exact absurd rfl c
theorem nought_f (neg : Bool) (m : Nat) (x : Int) : dyadic_nought.f neg (lb m) x = some (decide (m = 0)) := by
 unfold dyadic_nought.f
 rw [lb_len]
 by_cases c : m = 0
 ·subst c; rfl
 ·have := nl_pos c
  rw [decide_eq_false c, show (((nl m : Nat) : Int) == 0) = false from by rw [beq_eq_false_iff_ne]; omega]
theorem twin_f (neg : Bool) {m : Nat} (x : Int) (h : nl m ≤ 8192) : dyadic_twin.f neg (lb m) x = some (neg, lb m, x) := by
 unfold dyadic_twin.f slices_Clone_uint64_uint64.f
 rw [if_pos (by rw [lb_len]; omega)]
 rfl
theorem form_dk {neg : Bool} {m : Nat} {x : Int} (h : Dk neg m x) : Ev (fun k => dyadic_Form.f k neg (lb m) x) true := by
 have := form_ev neg (lb m) x
 rwa [dyB_lb h] at this
theorem mn_min (a b : Int) : mn a b = min a b := by unfold mn; split <;> omega
theorem add_dy {E : Int} {neg neg' : Bool} {m m' : Nat} {x x' V V' : Int} (h : Dy E neg m x V) (h' : Dy E neg' m' x' V') (h1 : -1048576 ≤ E) (h0 : E ≤ 0) (hb : bl V.natAbs ≤ 500000) (hb' : bl V'.natAbs ≤ 500000) :
  ∃ n c y, Dy E n c y (V + V') ∧ Ev (fun k => dyadic_Add.f k neg (lb m) x neg' (lb m') x') (n, lb c, y, 0) := by
 unfold dyadic_Add.f
 have hl := h.le
 have hl' := h'.le
 by_cases c : m = 0
 ·refine ⟨neg', m', x', ?_, ?_⟩
  ·rw [h.zero.1 c, Int.zero_add]; exact h'
  ·refine Ev.bind (form_dk h.dk) (Ev.congr (fun k => if_pos rfl) (Ev.bind (form_dk h'.dk) (Ev.congr (fun k => if_pos rfl) ?_)))
   simp only [nought_f, Option.bind_some, decide_eq_true c, if_true, twin_f _ _ h'.dk.lim]
   exact Ev.now _
 by_cases c' : m' = 0
 ·refine ⟨neg, m, x, ?_, ?_⟩
  ·rw [h'.zero.1 c', Int.add_zero]; exact h
  ·refine Ev.bind (form_dk h.dk) (Ev.congr (fun k => if_pos rfl) (Ev.bind (form_dk h'.dk) (Ev.congr (fun k => if_pos rfl) ?_)))
   simp only [nought_f, Option.bind_some, decide_eq_false c, decide_eq_true c', if_true, twin_f _ _ h.dk.lim, Bool.false_eq_true, if_false]
   exact Ev.now _
 have b1 := h.bl c
 have b2 := h'.bl c'
 have r1 := h.dk.low
 have r2 := h.dk.high
 have r3 := h'.dk.low
 have r4 := h'.dk.high
 obtain ⟨d, hd⟩ : ∃ d : Nat, (d : Int) = x - min x x' := ⟨(x - min x x').toNat, by omega⟩
 obtain ⟨d', hd'⟩ : ∃ d' : Nat, (d' : Int) = x' - min x x' := ⟨(x' - min x x').toNat, by omega⟩
 have w1 : wrap64 (x - min x x') = (d : Int) := by rw [w64 (by omega) (by omega)]; omega
 have w2 : wrap64 (x' - min x x') = (d' : Int) := by rw [w64 (by omega) (by omega)]; omega
 have s1 := numShl_f (neg := neg) h.dk.lim (fun e => absurd e c) (n := d) (.inr (by omega))
 have s2 := numShl_f (neg := neg') h'.dk.lim (fun e => absurd e c') (n := d') (.inr (by omega))
 have t1 : bl (m * 2^d) ≤ 524280 := by rw [bl_mul _ _ c]; omega
 have t2 : bl (m' * 2^d') ≤ 524280 := by rw [bl_mul _ _ c']; omega
 have nz : m * 2^d ≠ 0 := Nat.mul_ne_zero c (Nat.pos_iff_ne_zero.1 (Nat.two_pow_pos d))
 have nz' : m' * 2^d' ≠ 0 := Nat.mul_ne_zero c' (Nat.pos_iff_ne_zero.1 (Nat.two_pow_pos d'))
 obtain ⟨n, s, e1, e2, e3, e4⟩ := numAdd_f (neg := neg) (neg' := neg') t1 t2 (fun e => absurd e nz) (fun e => absurd e nz')
 have hv : vs n s (min x x') E = V + V' := by
  rw [vs_sv, sv_mul, e3, Int.add_mul, ← sv_mul, ← sv_mul, Nat.mul_assoc, Nat.mul_assoc, ← Nat.pow_add, ← Nat.pow_add, ← h.va, ← h'.va, vs_sv, vs_sv,
   show d + (min x x' - E).toNat = (x - E).toNat by omega, show d' + (min x x' - E).toNat = (x' - E).toNat by omega]
 have hbb : bl (V + V').natAbs ≤ 1000000 := by
  exact Nat.le_trans (bl_mono (show (V + V').natAbs ≤ V.natAbs + V'.natAbs by omega)) (Nat.le_trans (bl_add hb hb') (by decide))
 obtain ⟨n', m'', x'', k1, k2⟩ := make_dy (neg := n) (m := s) (x := min x x') e4 e2 h1 h0 (by omega) hv hbb
 refine ⟨n', m'', x'', k1, ?_⟩
 refine Ev.bind (form_dk h.dk) (Ev.congr (fun k => if_pos rfl) (Ev.bind (form_dk h'.dk) (Ev.congr (fun k => if_pos rfl) ?_)))
 simp only [nought_f, Option.bind_some, decide_eq_false c, decide_eq_false c', Bool.false_eq_true, if_false, w1, w2, s1, s2, if_true, e1, mn_min]
 exact Ev.bind k2 (Ev.now _)
theorem value_pat {f : Int} {F : Fmt} (h : Fm f F) (neg : Bool) {s : Nat} (hs : s < F.inf) {E : Int} (h1 : -100000 ≤ E) (hE : E ≤ F.low) :
  ∃ n m x, Dy E n m x (sv neg (nF F s * 2^(F.low - E).toNat)) ∧ Ev (fun k => binary_Value.f k f ((pat F neg s : Nat) : Int)) (n, lb m, x, 0) := by
 have hs2 : s < F.sg := by have := h.sz; omega
 have hmg := mg_lt h s
 have hdf := dF_le h hs2
 have hfm := fm_man h
 have hl : nl (mgF F s) ≤ 8192 := by
  by_cases c : mgF F s = 0
  ·rw [c]; decide
  ·rw [nl_one c (by omega)]; decide
 have hv : ∀ n, (mgF F s = 0 ∨ n = neg) → vs n (mgF F s) (xpF F s) E = sv neg (nF F s * 2^(F.low - E).toNat) := by
  intro n hn
  have e : mgF F s * 2^(xpF F s - E).toNat = nF F s * 2^(F.low - E).toNat := by
   unfold nF
   rw [Nat.mul_assoc, ← Nat.pow_add, xp_d, show (F.low + ((dF F s : Nat) : Int) - E).toNat = dF F s + (F.low - E).toNat by omega]
  rw [vs_sv, e]
  rcases hn with c | c
  ·unfold nF
   rw [c, Nat.zero_mul, Nat.zero_mul, sv_zero, sv_zero]
  ·rw [c]
 have hx := xp_d F s
 have hb : bl (sv neg (nF F s * 2^(F.low - E).toNat)).natAbs ≤ 1000000 := by
  rw [sv_abs]
  by_cases c : nF F s = 0
  ·rw [c, Nat.zero_mul]; decide
  ·rw [bl_mul _ _ c]
   have cm : mgF F s ≠ 0 := by intro e; apply c; unfold nF; rw [e, Nat.zero_mul]
   have : bl (nF F s) ≤ 53 + 2048 := by
    unfold nF
    rw [bl_mul _ _ cm]
    have : bl (mgF F s) ≤ 53 := bl_le_of_lt hmg
    omega
   omega
 unfold binary_Value.f
 have key : ∀ n, (mgF F s = 0 → n = false) → (mgF F s = 0 ∨ n = neg) → ∃ n' m x, Dy E n' m x (sv neg (nF F s * 2^(F.low - E).toNat)) ∧ Ev (fun k => dyadic_Make.f k n (lb (mgF F s)) (xpF F s)) (n', lb m, x, 0) := fun n z q => make_dy hl z (by omega) (by omega) (by omega) (hv n q) hb
 have num : ∃ n' m x, Dy E n' m x (sv neg (nF F s * 2^(F.low - E).toNat)) ∧ Ev (fun k => binary_number.f k neg ((mgF F s : Nat) : Int) (xpF F s)) (n', lb m, x, 0) := by
  cases neg
  ·obtain ⟨n', m, x, d, e⟩ := key false (fun _ => rfl) (.inr rfl)
   refine ⟨n', m, x, d, ?_⟩
   unfold binary_number.f
   rw [word_f _ (by omega)]
   simp only [Option.bind_some]
   exact Ev.congr (fun k => if_neg (by decide)) (Ev.bind e (Ev.now _))
  ·obtain ⟨n', m, x, d, e⟩ := key (decide (mgF F s ≠ 0)) (fun c => by rw [c]; rfl) (by by_cases c : mgF F s = 0; exact .inl c; exact .inr (decide_eq_true c))
   refine ⟨n', m, x, d, ?_⟩
   unfold binary_number.f
   rw [word_f _ (by omega)]
   simp only [Option.bind_some]
   have q : (((mgF F s : Nat) : Int) != 0) = decide (mgF F s ≠ 0) := by
    by_cases c : mgF F s = 0
    ·rw [c]; rfl
    ·rw [decide_eq_true c]; simp; omega
   rw [q]
   exact Ev.congr (fun k => if_pos trivial) (Ev.bind e (Ev.now _))
 obtain ⟨n', m, x, d, e⟩ := num
 refine ⟨n', m, x, d, ?_⟩
 refine Ev.bind (finite_pat h neg hs) (Ev.congr (fun k => if_pos rfl) ?_)
 simp only
 rw [parts_f h s hs2]
 simp only [Option.bind_some]
 exact Ev.bind e (Ev.now _)
end Go.Proofs.YtapikmfckpgjoaaGreatDoor.Rp7
