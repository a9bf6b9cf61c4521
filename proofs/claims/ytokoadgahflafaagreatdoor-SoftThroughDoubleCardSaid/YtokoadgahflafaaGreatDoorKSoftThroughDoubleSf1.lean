/- Layer 9's operands and what is reckoned with them: plain Lean over the functions. Conditions: formats 32 and 64; sizes as told. -/
import Derived.Test.YtokoadgahflafaaGreatDoorKSoftThroughDoubleRp7
import Derived.Test.YtokoadgahflafaaGreatDoorKSoftThroughDoubleSq
import Derived.Test.YtokoadgahflafaaGreatDoorKSoftThroughDoublePxOp
import Derived.Test.YtokoadgahflafaaGreatDoorKSoftThroughDoublePxL2
import Derived.Test.YtokoadgahflafaaGreatDoorKSoftThroughDoublePxL3
import Derived.Test.YtokoadgahflafaaGreatDoorKSoftThroughDoublePxL1
import Derived.Test.YtokoadgahflafaaGreatDoorKSoftThroughDoublePxR0
set_option linter.unusedVariables false
namespace Go.Proofs.YtokoadgahflafaaGreatDoor.Sf1
open Go.RowKit Go.Proofs.YtokoadgahflafaaGreatDoorW.PrintWords Go.Proofs.YtokoadgahflafaaGreatDoorW.PrintMore Go.Proofs.YtokoadgahflafaaGreatDoor.Num Go.Proofs.YtokoadgahflafaaGreatDoor.PLib Go.Proofs.YtokoadgahflafaaGreatDoor.Ref Go.Proofs.YtokoadgahflafaaGreatDoor.GTh Go.Proofs.YtokoadgahflafaaGreatDoor.Given Go.Proofs.YtokoadgahflafaaGreatDoor.Rp1 Go.Proofs.YtokoadgahflafaaGreatDoor.Rp2 Go.Proofs.YtokoadgahflafaaGreatDoor.Rp3 Go.Proofs.YtokoadgahflafaaGreatDoor.Rp4 Go.Proofs.YtokoadgahflafaaGreatDoor.Rp5 Go.Proofs.YtokoadgahflafaaGreatDoor.Rp7 Go.Proofs.YtokoadgahflafaaGreatDoor.BinLaw Go.Proofs.YtokoadgahflafaaGreatDoor.Fm8 Go.Proofs.YtokoadgahflafaaGreatDoor.Rnd Go.Proofs.YtokoadgahflafaaGreatDoor.Sq Go.Proofs.YtokoadgahflafaaGreatDoor.Px
theorem ev_eq {α : Type} {o : Option α} {v : α} (h : o = some v) : Ev (fun _ => o) v := by rw [h]; exact Ev.now _
inductive Vl where
 | nan
 | inf (n : Bool)
 | nou (n : Bool)
 | num (V : Int)
def OdE (E : Int) (B : Nat) : Vl → Opd → Prop
 | .nan, o => o = .nan
 | .inf n, o => o = .inf n
 | .nou n, o => o = .nou n
 | .num V, o => ∃ n m x, o = .num n (lb m) x ∧ Dy E n m x V ∧ V ≠ 0 ∧ bl m ≤ B
def rdV (F : Fmt) (neg : Bool) (s : Nat) : Vl := if s = 0 then .nou neg else if s < F.inf then .num (sv neg (nF F s)) else if s = F.inf then .inf neg else .nan
theorem odd_le {m g a b : Nat} (ho : m % 2 = 1) (e : m * 2^a = g * 2^b) : m ≤ g := by
 rcases Nat.lt_or_ge a b with c | c
 ·obtain ⟨d, rfl⟩ : ∃ d, b = a + (d + 1) := ⟨b - a - 1, by omega⟩
  exfalso
  have e2 : m = g * 2^(d + 1) := by
   refine Nat.eq_of_mul_eq_mul_right (Nat.two_pow_pos a) ?_
   rw [e, Nat.pow_add, Nat.mul_assoc, Nat.mul_comm (2^a)]
  rw [Nat.pow_succ, ← Nat.mul_assoc] at e2
  omega
 ·obtain ⟨d, rfl⟩ : ∃ d, a = b + d := ⟨a - b, by omega⟩
  have e2 : m * 2^d = g := by
   refine Nat.eq_of_mul_eq_mul_right (Nat.two_pow_pos b) ?_
   rw [← e, Nat.pow_add, Nat.mul_assoc, Nat.mul_comm (2^b)]
  rw [← e2]
  exact Nat.le_mul_of_pos_right _ (Nat.two_pow_pos d)
theorem nF_ne {f : Int} {F : Fmt} (h : Fm f F) {s : Nat} (hs : s ≠ 0) : nF F s ≠ 0 := by
 have := nF_lt h (show 0 < s by omega)
 omega
theorem sv_ne {neg : Bool} {m : Nat} (h : m ≠ 0) : sv neg m ≠ 0 := by
 intro e
 have := sv_abs neg m
 rw [e] at this
 have : (0 : Int).natAbs = 0 := rfl
 omega
theorem sgn_ne {f : Int} {F : Fmt} (h : Fm f F) (neg : Bool) {s : Nat} (hs : s < F.sg) : (Go.bits .and .u64 ((pat F neg s : Nat) : Int) ((F.sg : Nat) : Int) != 0) = neg := by
 rw [and_sg (fm_isF h) (pat_lt F neg hs), pat_ge F neg hs]
theorem signBit_f {f : Int} {F : Fmt} (h : Fm f F) : soft_signBit.f f = some ((F.sg : Nat) : Int) := by
 rcases h with ⟨rfl, rfl⟩ | ⟨rfl, rfl⟩ <;> kernel_rfl
theorem read_ev {f : Int} {F : Fmt} (h : Fm f F) (neg : Bool) {s : Nat} (hs : s < F.sg) : ∃ o, OdE F.low 53 (rdV F neg s) o ∧ Ev (fun k => soft_read.f k f ((pat F neg s : Nat) : Int)) (o, 0) := by
 have hz := h.sz
 have hc := classOf_pat h neg hs
 have hfm := fm_man h
 unfold rdV
 by_cases c0 : s = 0
 ·rw [if_pos c0]
  refine ⟨_, rfl, ?_⟩
  unfold soft_read.f
  refine Ev.bind hc (Ev.congr (fun k => if_pos rfl) (Ev.bind (ev_eq (signBit_f h)) ?_))
  have e : cl F s = 0 := by unfold cl; rw [if_pos c0]
  simp only [e]
  rw [sgn_ne h neg hs]
  exact Ev.now _
 rw [if_neg c0]
 by_cases c1 : s < F.inf
 ·rw [if_pos c1]
  obtain ⟨n, m, x, d, e⟩ := value_pat h neg c1 (E := F.low) (by omega) (Int.le_refl _)
  rw [Int.sub_self, Int.toNat_zero, Nat.pow_zero, Nat.mul_one] at d
  refine ⟨.num n (lb m) x, ⟨n, m, x, rfl, d, sv_ne (nF_ne h c0), ?_⟩, ?_⟩
  ·refine bl_le_of_lt ?_
   have m0 : m ≠ 0 := fun e => sv_ne (nF_ne h c0) (d.zero.1 e)
   have ea := d.abs
   rw [sv_abs] at ea
   unfold nF at ea
   have := odd_le (d.dk.odd m0) ea.symm
   have := mg_lt h s
   omega
  ·unfold soft_read.f
   refine Ev.bind hc (Ev.congr (fun k => if_pos rfl) (Ev.bind (ev_eq (signBit_f h)) ?_))
   have k1 := (cl_fin h s).2 c1
   have k2 : cl F s ≠ 0 := fun e => c0 ((cl_zero F s).1 e)
   refine Ev.congr (fun k => if_neg (by dsimp only; omega)) (Ev.congr (fun k => if_neg (by dsimp only; omega)) (Ev.congr (fun k => if_neg (by dsimp only; omega)) ?_))
   exact Ev.bind e (Ev.now _)
 rw [if_neg c1]
 have k0 : ¬ s < hdF F := by have := fm_hd h; omega
 by_cases c2 : s = F.inf
 ·rw [if_pos c2]
  refine ⟨_, rfl, ?_⟩
  unfold soft_read.f
  refine Ev.bind hc (Ev.congr (fun k => if_pos rfl) (Ev.bind (ev_eq (signBit_f h)) ?_))
  have e : cl F s = 3 := by unfold cl; rw [if_neg c0, if_neg k0, if_neg c1, if_pos c2]
  simp only [e]
  rw [sgn_ne h neg hs]
  exact Ev.now _
 ·rw [if_neg c2]
  refine ⟨_, rfl, ?_⟩
  unfold soft_read.f
  refine Ev.bind hc (Ev.congr (fun k => if_pos rfl) (Ev.bind (ev_eq (signBit_f h)) ?_))
  have e : cl F s = 4 := by unfold cl; rw [if_neg c0, if_neg k0, if_neg c1, if_neg c2]
  simp only [e]
  exact Ev.now _
def tellV (F : Fmt) (g : Nat) : Vl → Nat
 | .nan => F.qt
 | .inf n => pat F n F.inf
 | .nou n => pat F n 0
 | .num V => Rp4.pv F g V
theorem signed_soft {f : Int} {F : Fmt} (h : Fm f F) (neg : Bool) {s : Nat} (hs : s < F.sg) : soft_signed.f f neg (s : Int) = some ((pat F neg s : Nat) : Int) := by
 unfold soft_signed.f pat
 cases neg
 ·rw [if_neg (by decide)]; rfl
 ·rw [if_pos rfl, signBit_f h, Option.bind_some, or_sg (fm_isF h) hs]; rfl
theorem quiet_f {f : Int} {F : Fmt} (h : Fm f F) : binary_Quiet.f f = some (((F.qt : Nat) : Int), 0) := by
 rcases h with ⟨rfl, rfl⟩ | ⟨rfl, rfl⟩ <;> rfl
theorem tell_ev {f : Int} {F : Fmt} (h : Fm f F) {E : Int} {B : Nat} (hE : E ≤ F.low) {v : Vl} {o : Opd} (ho : OdE E B v o) : Ev (fun k => soft_tell.f k f o) (((tellV F (F.low - E).toNat v : Nat) : Int), 0) := by
 have hz := h.sz
 unfold soft_tell.f
 cases v with
 | nan =>
  obtain rfl := ho
  exact Ev.bind (ev_eq (quiet_f h)) (Ev.now _)
 | inf n =>
  obtain rfl := ho
  dsimp only [opm]
  rcases h with ⟨rfl, rfl⟩ | ⟨rfl, rfl⟩
  ·exact Ev.congr (fun k => if_neg (by decide)) (Ev.bind (ev_eq (signed_soft (.inl ⟨rfl, rfl⟩) n (s := fS.inf) (by decide))) (Ev.now _))
  ·exact Ev.congr (fun k => if_pos rfl) (Ev.bind (ev_eq (signed_soft (.inr ⟨rfl, rfl⟩) n (s := fD.inf) (by decide))) (Ev.now _))
 | nou n =>
  obtain rfl := ho
  exact Ev.bind (ev_eq (signed_soft h n (s := 0) (by omega))) (Ev.now _)
 | num V =>
  obtain ⟨n, m, x, rfl, d, v0, _⟩ := ho
  have e := nearest_ev h d.dk d.le hE
  rw [rnd_pv F d.dk, d.va] at e
  exact Ev.bind e (Ev.now _)
def plusV : Vl → Vl → Vl
 | .nan, _ => .nan
 | .inf a, .nan => .nan
 | .inf a, .inf b => if a = b then .inf a else .nan
 | .inf a, _ => .inf a
 | .nou a, .nou b => .nou (a && b)
 | .nou _, y => y
 | .num V, .num W => if V + W = 0 then .nou false else .num (V + W)
 | .num V, .nou _ => .num V
 | .num V, y => y
def blV : Vl → Nat
 | .num V => bl V.natAbs
 | _ => 0
theorem OdE.mono {E : Int} {B B' : Nat} (hB : B ≤ B') {v : Vl} {o : Opd} (h : OdE E B v o) : OdE E B' v o := by
 cases v with
 | num V => obtain ⟨n, m, x, e, d, v0, b⟩ := h; exact ⟨n, m, x, e, d, v0, Nat.le_trans b hB⟩
 | _ => exact h
theorem plus_ev {E : Int} {B : Nat} (h1 : -1048576 ≤ E) (h0 : E ≤ 0) {v v' : Vl} {o o' : Opd} (h : OdE E B v o) (h' : OdE E B v' o') (hb : blV v ≤ 500000) (hb' : blV v' ≤ 500000) :
  ∃ r, OdE E (max B 524288) (plusV v v') r ∧ Ev (fun k => soft_plus.f k o o') r := by
 have hm : B ≤ max B 524288 := by omega
 cases v with
 | nan =>
  obtain rfl := h
  exact ⟨_, rfl, Ev.now _⟩
 | inf a =>
  obtain rfl := h
  cases v' with
  | nan => obtain rfl := h'; exact ⟨_, rfl, Ev.now _⟩
  | inf b =>
   obtain rfl := h'
   by_cases c : a = b
   ·subst c; refine ⟨.inf a, by show OdE E _ (if a = a then .inf a else .nan) (.inf a); rw [if_pos rfl]; rfl, Ev.congr (fun k => if_pos rfl) (Ev.now _)⟩
   ·refine ⟨.nan, by show OdE E _ (if a = b then .inf a else .nan) .nan; rw [if_neg c]; rfl, Ev.congr (fun k => if_neg c) (Ev.now _)⟩
  | nou b => obtain rfl := h'; exact ⟨_, rfl, Ev.now _⟩
  | num W => obtain ⟨n, m, x, rfl, d, v0, bm⟩ := h'; exact ⟨.inf a, rfl, Ev.now _⟩
 | nou a =>
  obtain rfl := h
  cases v' with
  | nan => obtain rfl := h'; exact ⟨_, rfl, Ev.now _⟩
  | inf b => obtain rfl := h'; exact ⟨_, rfl, Ev.now _⟩
  | nou b =>
   obtain rfl := h'
   cases a
   ·exact ⟨.nou false, rfl, Ev.now _⟩
   ·exact ⟨.nou b, rfl, Ev.now _⟩
  | num W =>
   have h2 := h'
   obtain ⟨n, m, x, rfl, d, v0, bm⟩ := h'
   exact ⟨_, h2.mono hm, Ev.now _⟩
 | num V =>
  have h3 := h
  obtain ⟨n, m, x, rfl, d, v0, bm⟩ := h
  cases v' with
  | nan => obtain rfl := h'; exact ⟨_, rfl, Ev.now _⟩
  | inf b => obtain rfl := h'; exact ⟨_, rfl, Ev.now _⟩
  | nou b => obtain rfl := h'; exact ⟨_, h3.mono hm, Ev.now _⟩
  | num W =>
   obtain ⟨n', m', x', rfl, d', v0', bm'⟩ := h'
   obtain ⟨n2, m2, x2, d2, e2⟩ := add_dy d d' h1 h0 hb hb'
   by_cases c : V + W = 0
   ·have m0 := d2.zero.2 c
    refine ⟨.nou false, by show OdE E _ (if V + W = 0 then .nou false else .num (V + W)) (.nou false); rw [if_pos c]; rfl, ?_⟩
    exact Ev.bind e2 (Ev.congr (fun k => if_pos (by dsimp only; rw [m0]; rfl)) (Ev.now _))
   ·have m0 : m2 ≠ 0 := fun e => c (d2.zero.1 e)
    refine ⟨.num n2 (lb m2) x2, ?_, ?_⟩
    ·show OdE E _ (if V + W = 0 then .nou false else .num (V + W)) _
     rw [if_neg c]
     refine ⟨n2, m2, x2, rfl, d2, c, ?_⟩
     have := d2.dk.lim
     have := bl_le_limbs m2
     omega
    ·have := nl_pos m0
     exact Ev.bind e2 (Ev.congr (fun k => if_neg (by dsimp only; rw [lb_len]; omega)) (Ev.now _))
theorem vs_mul {E E' : Int} {n n' : Bool} {m m' : Nat} {x x' : Int} (h : E ≤ x) (h' : E' ≤ x') : vs (n != n') (m * m') (x + x') (E + E') = vs n m x E * vs n' m' x' E' := by
 rw [vs_sv, vs_sv, vs_sv, show (x + x' - (E + E')).toNat = (x - E).toNat + (x' - E').toNat by omega, Nat.pow_add]
 have e : m * m' * (2^(x - E).toNat * 2^(x' - E').toNat) = (m * 2^(x - E).toNat) * (m' * 2^(x' - E').toNat) := by ac_rfl
 rw [e]
 generalize m * 2^(x - E).toNat = a
 generalize m' * 2^(x' - E').toNat = b
 cases n <;> cases n'
 ·show ((a * b : Nat) : Int) = (a : Int) * b; rw [Int.natCast_mul]
 ·show -((a * b : Nat) : Int) = (a : Int) * -(b : Int); rw [Int.natCast_mul, Int.mul_neg]
 ·show -((a * b : Nat) : Int) = -(a : Int) * (b : Int); rw [Int.natCast_mul, Int.neg_mul]
 ·show ((a * b : Nat) : Int) = -(a : Int) * -(b : Int); rw [Int.natCast_mul, Int.neg_mul_neg]
theorem natmul_f {m m' : Nat} (h : nl m ≤ 8192) (h' : nl m' ≤ 8192) (hs : nl m < 40 ∨ nl m' < 40) (hp : nl (m * m') ≤ 8192) : natmul_Mul.f (lb m) (lb m') = some (lb (m * m'), 0) := by
 unfold natmul_Mul.f
 rw [vL_lb, vL_lb, if_pos ⟨fmL_lb h, fmL_lb h', by rw [lb_len, lb_len]; exact hs, hp⟩]
theorem bl_mul2 {a b i j : Nat} (ha : bl a ≤ i) (hb : bl b ≤ j) : bl (a * b) ≤ i + j := by
 refine bl_le_of_lt ?_
 rw [Nat.pow_add]
 have h1 := bl_le_iff.1 ha
 have h2 := bl_le_iff.1 hb
 exact Nat.lt_of_lt_of_le (Nat.mul_lt_mul_of_lt_of_le h1 (Nat.le_of_lt h2) (Nat.two_pow_pos j)) (Nat.le_refl _)
theorem mul_dy {E E' : Int} {n n' : Bool} {m m' : Nat} {x x' V V' : Int} (h : Dy E n m x V) (h' : Dy E' n' m' x' V') (h1 : -524288 ≤ E) (h0 : E ≤ 0) (h1' : -524288 ≤ E') (h0' : E' ≤ 0) (hb : bl V.natAbs ≤ 250000) (hb' : bl V'.natAbs ≤ 250000) (hs : nl m < 40 ∨ nl m' < 40) :
  ∃ k c y, Dy (E + E') k c y (V * V') ∧ (c = m * m' ∨ (c = 0 ∧ V * V' = 0)) ∧ Ev (fun k => dyadic_Mul.f k n (lb m) x n' (lb m') x') (k, lb c, y, 0) := by
 have bm : bl m ≤ 250000 := by
  by_cases c : m = 0
  ·rw [c]; decide
  ·have := h.bl c; omega
 have bm' : bl m' ≤ 250000 := by
  by_cases c : m' = 0
  ·rw [c]; decide
  ·have := h'.bl c; omega
 have bp := bl_mul2 bm bm'
 have lp : nl (m * m') ≤ 8192 := nl_of_bl (by omega)
 have q1 := h.dk.low
 have q2 := h.dk.high
 have q3 := h'.dk.low
 have q4 := h'.dk.high
 have hv : vs (n != n') (m * m') (x + x') (E + E') = V * V' := by rw [vs_mul h.le h'.le, h.va, h'.va]
 have hz : m * m' = 0 → ((n != n') && decide (m * m' ≠ 0)) = false := fun e => by simp [e]
 have hv2 : vs ((n != n') && decide (m * m' ≠ 0)) (m * m') (x + x') (E + E') = V * V' := by
  by_cases c : m * m' = 0
  ·rw [← hv, c, vs_sv, vs_sv, Nat.zero_mul, sv_zero, sv_zero]
  ·rw [decide_eq_true c, Bool.and_true]; exact hv
 obtain ⟨k, c, y, d, e⟩ := make_dy (neg := (n != n') && decide (m * m' ≠ 0)) lp hz (by omega) (by omega) (show E + E' ≤ x + x' by have := h.le; have := h'.le; omega) hv2 (by rw [Int.natAbs_mul]; exact Nat.le_trans (bl_mul2 hb hb') (by decide))
 refine ⟨k, c, y, d, ?_, ?_⟩
 ·by_cases c0 : c = 0
  ·exact .inr ⟨c0, d.zero.1 c0⟩
  ·left
   have p0 : m * m' ≠ 0 := by
    intro e0
    rw [e0, vs_sv, Nat.zero_mul, sv_zero] at hv
    exact c0 (d.zero.2 hv.symm)
   have m0 : m ≠ 0 := fun e0 => p0 (by rw [e0, Nat.zero_mul])
   have m0' : m' ≠ 0 := fun e0 => p0 (by rw [e0, Nat.mul_zero])
   have o1 := h.dk.odd m0
   have o2 := h'.dk.odd m0'
   have o3 : m * m' % 2 = 1 := by rw [Nat.mul_mod, o1, o2]
   have ea := d.abs
   rw [Int.natAbs_mul, h.abs, h'.abs] at ea
   have ea2 : m * m' * 2^((x - E).toNat + (x' - E').toNat) = c * 2^(y - (E + E')).toNat := by rw [← ea, Nat.pow_add]; ac_rfl
   have l1 := odd_le (d.dk.odd c0) ea2.symm
   have l2 := odd_le o3 ea2
   omega
 ·unfold dyadic_Mul.f num_Mul.f
  have w : wrap64 (x + x') = x + x' := w64 (by omega) (by omega)
  refine Ev.bind (form_dk h.dk) (Ev.congr (fun k => if_pos rfl) (Ev.bind (form_dk h'.dk) (Ev.congr (fun k => if_pos rfl) ?_)))
  simp only [numForm_lb h.dk.lim (fun e => (h.dk.zero e).1), numForm_lb h'.dk.lim (fun e => (h'.dk.zero e).1), Option.bind_some, if_true, natmul_f h.dk.lim h'.dk.lim hs lp, told_f, w]
  exact Ev.bind e (Ev.now _)
def sgV : Vl → Bool
 | .nan => false
 | .inf n => n
 | .nou n => n
 | .num V => decide (V < 0)
def timesV : Vl → Vl → Vl
 | .nan, _ => .nan
 | _, .nan => .nan
 | .inf _, .nou _ => .nan
 | .nou _, .inf _ => .nan
 | .num V, .num W => .num (V * W)
 | .inf a, y => .inf (a != sgV y)
 | x, .inf b => .inf (sgV x != b)
 | .nou a, y => .nou (a != sgV y)
 | x, .nou b => .nou (sgV x != b)
theorem times_ev {E E' : Int} {B B' : Nat} (h1 : -524288 ≤ E) (h0 : E ≤ 0) (h1' : -524288 ≤ E') (h0' : E' ≤ 0) (hB : B ≤ 2000) {v v' : Vl} {o o' : Opd} (h : OdE E B v o) (h' : OdE E' B' v' o') (hb : blV v ≤ 250000) (hb' : blV v' ≤ 250000) :
  ∃ r, OdE (E + E') (B + B') (timesV v v') r ∧ Ev (fun k => soft_times.f k o o') r := by
 cases v with
 | nan =>
  obtain rfl := h
  refine ⟨.nan, by cases v' <;> rfl, ?_⟩
  cases v' with
  | nan => obtain rfl := h'; exact Ev.now _
  | inf b => obtain rfl := h'; exact Ev.now _
  | nou b => obtain rfl := h'; exact Ev.now _
  | num W => obtain ⟨n, m, x, rfl, d, v0, bm⟩ := h'; exact Ev.now _
 | inf a =>
  obtain rfl := h
  cases v' with
  | nan => obtain rfl := h'; exact ⟨.nan, rfl, Ev.now _⟩
  | inf b => obtain rfl := h'; exact ⟨.inf (a != b), rfl, Ev.now _⟩
  | nou b => obtain rfl := h'; exact ⟨.nan, rfl, Ev.now _⟩
  | num W =>
   obtain ⟨n, m, x, rfl, d, v0, bm⟩ := h'
   obtain rfl := d.neg
   exact ⟨.inf (a != decide (W < 0)), rfl, Ev.now _⟩
 | nou a =>
  obtain rfl := h
  cases v' with
  | nan => obtain rfl := h'; exact ⟨.nan, rfl, Ev.now _⟩
  | inf b => obtain rfl := h'; exact ⟨.nan, rfl, Ev.now _⟩
  | nou b => obtain rfl := h'; exact ⟨.nou (a != b), rfl, Ev.now _⟩
  | num W =>
   obtain ⟨n, m, x, rfl, d, v0, bm⟩ := h'
   obtain rfl := d.neg
   exact ⟨.nou (a != decide (W < 0)), rfl, Ev.now _⟩
 | num V =>
  obtain ⟨n, m, x, rfl, d, v0, bm⟩ := h
  have hn := d.neg
  cases v' with
  | nan => obtain rfl := h'; exact ⟨.nan, rfl, Ev.now _⟩
  | inf b => obtain rfl := h'; subst hn; exact ⟨.inf (decide (V < 0) != b), rfl, Ev.now _⟩
  | nou b => obtain rfl := h'; subst hn; exact ⟨.nou (decide (V < 0) != b), rfl, Ev.now _⟩
  | num W =>
   obtain ⟨n', m', x', rfl, d', v0', bm'⟩ := h'
   obtain ⟨k, c, y, d2, e2, e3⟩ := mul_dy d d' h1 h0 h1' h0' hb hb' (.inl (by unfold nl; omega))
   have p0 : V * W ≠ 0 := Int.mul_ne_zero v0 v0'
   refine ⟨.num k (lb c) y, ⟨k, c, y, rfl, d2, p0, ?_⟩, Ev.bind e3 (Ev.now _)⟩
   rcases e2 with rfl | ⟨_, e2⟩
   ·exact bl_mul2 bm bm'
   ·exact absurd e2 p0
end Go.Proofs.YtokoadgahflafaaGreatDoor.Sf1
