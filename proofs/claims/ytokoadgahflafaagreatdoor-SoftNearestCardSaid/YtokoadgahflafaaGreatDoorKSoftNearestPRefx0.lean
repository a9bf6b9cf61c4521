/- Sums, products, quotients and roots keep the order: the plain law of SoftOrders. Plain Lean over the functions. Condition: words.  -/
import Derived.Test.YtokoadgahflafaaGreatDoorKSoftNearestSoftRootOfSquareL
import Derived.Test.YtokoadgahflafaaGreatDoorKSoftNearestPxO0
import Derived.Test.YtokoadgahflafaaGreatDoorProg
import Derived.Test.YtokoadgahflafaaGreatDoorKSoftNearestGiven
import Derived.Below
import Derived.Deep.Draws
import Derived.Deep.AppendLies
import Derived.Maps.AppendAt
import Derived.OwnWalk
import Derived.Laws.BytesArg
import Derived.Laws.MakeOwn
import Derived.Laws.OwnMore
import Derived.Deep.OwnRows
import Derived.Tactics
import Derived.Lib.ConvBytes
import Derived.Laws.Slices
import Derived.WalkKit
import Derived.KernelRfl
import Derived.RowKit3
import Derived.Deep.LoopGhost
import Derived.Deep.QuietTactic
import Derived.BigQuiet
import Derived.WideLaws
import Derived.Deep.DeepCutAuto
import Derived.Deep.CutBlock
import Derived.Deep.RegionHeld3
import Derived.Laws.Rows
import Derived.Lib.AppendStr
import Derived.ArgAppend
import Derived.Laws.IdiomCopy
import Derived.OrdersHeld
import Derived.Laws.BitsLemmas
import Derived.RowKit
import Derived.Test.YtokoadgahflafaaGreatDoorKSoftNearestWWords
import Derived.Test.YtokoadgahflafaaGreatDoorKSoftNearestWLast
import Derived.Test.YtokoadgahflafaaGreatDoorKSoftNearestWGuard
import Derived.Test.YtokoadgahflafaaGreatDoorKSoftNearestNum
import Derived.Laws.StructEq
import Derived.Test.YtokoadgahflafaaGreatDoorKSoftNearestPLenx1
section
set_option linter.unusedVariables false
namespace Go.Proofs.YtokoadgahflafaaGreatDoor.SoftOrdersL
open Go.RowKit Go.Proofs.YtokoadgahflafaaGreatDoorW.PrintWords Go.Proofs.YtokoadgahflafaaGreatDoorW.PrintMore Go.Proofs.YtokoadgahflafaaGreatDoor.Num Go.Proofs.YtokoadgahflafaaGreatDoor.PLib Go.Proofs.YtokoadgahflafaaGreatDoor.Ref Go.Proofs.YtokoadgahflafaaGreatDoor.GTh Go.Proofs.YtokoadgahflafaaGreatDoor.Given Go.Proofs.YtokoadgahflafaaGreatDoor.Rp1 Go.Proofs.YtokoadgahflafaaGreatDoor.Rp2 Go.Proofs.YtokoadgahflafaaGreatDoor.Rp3 Go.Proofs.YtokoadgahflafaaGreatDoor.Rp4 Go.Proofs.YtokoadgahflafaaGreatDoor.Rp5 Go.Proofs.YtokoadgahflafaaGreatDoor.Rp7 Go.Proofs.YtokoadgahflafaaGreatDoor.BinLaw Go.Proofs.YtokoadgahflafaaGreatDoor.Fm8 Go.Proofs.YtokoadgahflafaaGreatDoor.Rnd Go.Proofs.YtokoadgahflafaaGreatDoor.Sq Go.Proofs.YtokoadgahflafaaGreatDoor.Px Go.Proofs.YtokoadgahflafaaGreatDoor.Sf1 Go.Proofs.YtokoadgahflafaaGreatDoor.Sf2 Go.Proofs.YtokoadgahflafaaGreatDoor.Sf3 Go.Proofs.YtokoadgahflafaaGreatDoor.Sf4 Go.Proofs.YtokoadgahflafaaGreatDoor.Sf5 Go.Proofs.YtokoadgahflafaaGreatDoor.Sf6 Go.Proofs.YtokoadgahflafaaGreatDoor.SoftRootOfSquareL
def valV : Vl → Int
 | .num V => V
 | _ => 0
def finV : Vl → Prop
 | .num V => V ≠ 0
 | .nou _ => True
 | _ => False
def rz (F : Fmt) (g : Nat) (V : Int) : Int := if V < 0 then -((rsz F g V.natAbs : Nat) : Int) else ((rsz F g V.natAbs : Nat) : Int)
theorem rz_mono {f : Int} {F : Fmt} (h : Fm f F) {g : Nat} {V W : Int} (hVW : V ≤ W) : rz F g V ≤ rz F g W := by
 unfold rz
 by_cases c1 : V < 0
 ·rw [if_pos c1]
  by_cases c2 : W < 0
  ·rw [if_pos c2]
   have := rsz_mono h (g := g) (show W.natAbs ≤ V.natAbs by omega)
   omega
  ·rw [if_neg c2]; omega
 ·rw [if_neg c1, if_neg (by omega)]
  have := rsz_mono h (g := g) (show V.natAbs ≤ W.natAbs by omega)
  omega
structure Fn (F : Fmt) (p : Nat) (r : Int) : Prop where mk :: (lt : p < 2 * F.sg) (num : p % F.sg ≤ F.inf) (rk : rkB F p = r)
theorem fn_pat {f : Int} {F : Fmt} (h : Fm f F) (neg : Bool) {s : Nat} (hs : s ≤ F.inf) : Fn F (pat F neg s) (rkI neg s) := by
 have hz := h.sz
 refine ⟨pat_lt F neg (by omega), by rw [pat_mod F neg (by omega)]; exact hs, ?_⟩
 unfold rkB
 rw [pat_ge F neg (by omega), pat_mod F neg (by omega)]
theorem rkI_zero (neg : Bool) : rkI neg 0 = 0 := by cases neg <;> rfl
theorem fn_tell {f : Int} {F : Fmt} (h : Fm f F) {g : Nat} {v : Vl} (hv : finV v) : Fn F (tellV F g v) (rz F g (valV v)) := by
 cases v with
 | nan => exact hv.elim
 | inf n => exact hv.elim
 | nou n =>
  have := fn_pat h n (s := 0) (by omega)
  rw [rkI_zero] at this
  have e : rz F g (valV (.nou n)) = 0 := by
   show rz F g 0 = 0
   unfold rz
   rw [if_neg (by omega)]
   show ((rsz F g 0 : Nat) : Int) = 0
   rw [rsz_zero h]; rfl
  rw [e]
  exact this
 | num V =>
  have hv : V ≠ 0 := hv
  have := fn_pat h (decide (V < 0)) (s := rsz F g V.natAbs) (rsz_nst h g V.natAbs).le
  have e : rz F g (valV (.num V)) = rkI (decide (V < 0)) (rsz F g V.natAbs) := by
   show rz F g V = _
   unfold rz rkI
   by_cases c : V < 0
   ·rw [if_pos c, decide_eq_true c, if_pos rfl]
   ·rw [if_neg c, decide_eq_false c, if_neg (by decide)]
  rw [e]
  show Fn F (Rp4.pv F g V) _
  unfold Rp4.pv
  rw [if_neg hv]
  exact this
theorem fin_plus {v w : Vl} (hv : finV v) (hw : finV w) : finV (plusV v w) ∧ valV (plusV v w) = valV v + valV w := by
 cases v with
 | nan => exact hv.elim
 | inf n => exact hv.elim
 | nou n =>
  cases w with
  | nan => exact hw.elim
  | inf n => exact hw.elim
  | nou m => exact ⟨trivial, rfl⟩
  | num W => exact ⟨hw, (Int.zero_add W).symm⟩
 | num V =>
  cases w with
  | nan => exact hw.elim
  | inf n => exact hw.elim
  | nou m => exact ⟨hv, (Int.add_zero V).symm⟩
  | num W =>
   show finV (if V + W = 0 then .nou false else .num (V + W)) ∧ valV (if V + W = 0 then .nou false else .num (V + W)) = V + W
   by_cases c : V + W = 0
   ·rw [if_pos c, c]; exact ⟨trivial, rfl⟩
   ·rw [if_neg c]; exact ⟨c, rfl⟩
theorem fin_turn {v : Vl} (hv : finV v) : finV (turnV v) ∧ valV (turnV v) = -valV v := by
 cases v with
 | nan => exact hv.elim
 | inf n => exact hv.elim
 | nou n => exact ⟨trivial, rfl⟩
 | num V => have hv : V ≠ 0 := hv; exact ⟨show -V ≠ 0 by omega, rfl⟩
theorem fin_times {v w : Vl} (hv : finV v) (hw : finV w) : finV (timesV v w) ∧ valV (timesV v w) = valV v * valV w := by
 cases v with
 | nan => exact hv.elim
 | inf n => exact hv.elim
 | nou n =>
  cases w with
  | nan => exact hw.elim
  | inf n => exact hw.elim
  | nou m => exact ⟨trivial, rfl⟩
  | num W => exact ⟨trivial, (Int.zero_mul W).symm⟩
 | num V =>
  cases w with
  | nan => exact hw.elim
  | inf n => exact hw.elim
  | nou m => exact ⟨trivial, (Int.mul_zero V).symm⟩
  | num W => exact ⟨Int.mul_ne_zero hv hw, rfl⟩
theorem fin_rd {f : Int} {F : Fmt} (h : Fm f F) {b : Nat} (hb : b % F.sg < F.inf) : finV (rdB F b) ∧ valV (rdB F b) = sv (decide (F.sg ≤ b)) (nF F (b % F.sg)) := by
 unfold rdB rdV
 by_cases c : b % F.sg = 0
 ·rw [if_pos c, c, nF_zero, sv_zero]; exact ⟨trivial, rfl⟩
 ·rw [if_neg c, if_pos hb]; exact ⟨sv_ne (nF_ne h c), rfl⟩
theorem val_le {f : Int} {F : Fmt} (h : Fm f F) {a b : Nat} (ha : a % F.sg < F.inf) (hb : b % F.sg < F.inf) (hr : rkB F a ≤ rkB F b) : valV (rdB F a) ≤ valV (rdB F b) := by
 rw [(fin_rd h ha).2, (fin_rd h hb).2]
 unfold rkB at hr
 generalize decide (F.sg ≤ a) = na at *
 generalize decide (F.sg ≤ b) = nb at *
 generalize a % F.sg = s at *
 generalize b % F.sg = t at *
 have m1 : s ≤ t → nF F s ≤ nF F t := nF_le h
 have m2 : t ≤ s → nF F t ≤ nF F s := nF_le h
 have z1 : s = 0 → nF F s = 0 := fun e => by rw [e, nF_zero]
 have z2 : t = 0 → nF F t = 0 := fun e => by rw [e, nF_zero]
 generalize nF F s = x at *
 generalize nF F t = y at *
 cases na <;> cases nb
 ·have hr : (s : Int) ≤ (t : Int) := hr
  have := m1 (by omega)
  show (x : Int) ≤ (y : Int); omega
 ·have hr : (s : Int) ≤ -(t : Int) := hr
  have := z1 (by omega)
  have := z2 (by omega)
  show (x : Int) ≤ -(y : Int); omega
 ·show -(x : Int) ≤ (y : Int); omega
 ·have hr : -(s : Int) ≤ -(t : Int) := hr
  have := m2 (by omega)
  show -(x : Int) ≤ -(y : Int); omega
theorem cmp_le {f : Int} {F : Fmt} (h : Fm f F) {p q : Nat} {r t : Int} (hp : Fn F p r) (hq : Fn F q t) (hle : r ≤ t) : ∃ d : Int, Ev (fun k => soft_Compare.f k f (p : Int) (q : Int)) (d, 0) ∧ (d = -1 ∨ d = 0) := by
 refine ⟨_, compare_ev h hp.lt hq.lt, ?_⟩
 unfold cmpB
 have n1 := hp.num
 have n2 := hq.num
 rw [if_neg (by omega), hp.rk, hq.rk]
 unfold cmZ
 by_cases c : r < t
 ·rw [if_pos c]; exact .inl rfl
 ·rw [if_neg c, if_neg (by omega)]; exact .inr rfl
theorem cmp_ev {f : Int} {F : Fmt} (h : Fm f F) {p q : Nat} {r t : Int} (hp : Fn F p r) (hq : Fn F q t) (hle : r ≤ t) {G : Nat → Option Bool} (hG : Ev G true) :
  Ev (fun k => (soft_Compare.f k f (p : Int) (q : Int)).bind fun bt9 => (if bt9.2 = 0 then (if bt9.1 = (-1) then G k else (if bt9.1 = 0 then G k else (some false))) else (some false))) true := by
 obtain ⟨d, e, c⟩ := cmp_le h hp hq hle
 refine Ev.bind e (Ev.congr (fun k => if_pos rfl) ?_)
 dsimp only
 rcases c with rfl | rfl
 ·exact Ev.congr (fun k => if_pos rfl) hG
 ·exact Ev.congr (fun k => if_neg (by decide)) (Ev.congr (fun k => if_pos rfl) hG)
theorem quo_fn {f : Int} {F : Fmt} (h : Fm f F) {v w : Vl} {r : Nat} (hv : finV v) (hw : finV w) (w0 : 0 < valV w) (hr : QuoR F v w r) : ∃ s, s ≤ F.inf ∧ Nq F ((valV v).natAbs * 2^(-F.low).toNat) (valV w).natAbs s ∧ Fn F r (if valV v < 0 then -(s : Int) else (s : Int)) := by
 cases w with
 | nan => exact hw.elim
 | inf n => exact hw.elim
 | nou n => exact absurd w0 (by show ¬ (0 : Int) < 0; decide)
 | num W =>
  have w0 : 0 < W := w0
  cases v with
  | nan => exact hv.elim
  | inf n => exact hv.elim
  | nou n =>
   have e : r = pat F (n != decide (W < 0)) 0 := hr
   refine ⟨0, by omega, ?_, ?_⟩
   ·show Nq F ((0 : Int).natAbs * _) W.natAbs 0
    rw [show (0 : Int).natAbs = 0 from rfl, Nat.zero_mul]
    refine ⟨by omega, fun _ => .inl ?_, fun t ht => by omega⟩
    have := nF_step h 0
    unfold md
    exact Nat.mul_pos (Nat.mul_pos (by omega) (Nat.two_pow_pos 0)) (by omega)
   ·rw [e]
    have := fn_pat h (n != decide (W < 0)) (s := 0) (by omega)
    rw [rkI_zero] at this
    show Fn F _ (if (0 : Int) < 0 then _ else _)
    rw [if_neg (by decide)]
    exact this
  | num V =>
   obtain ⟨s, hs, e⟩ := hr
   refine ⟨s, hs.le, hs, ?_⟩
   rw [e, decide_eq_false (show ¬ W < 0 by omega), show ∀ b : Bool, (b != false) = b from fun b => by cases b <;> rfl]
   have := fn_pat h (decide (V < 0)) hs.le
   show Fn F _ (if V < 0 then _ else _)
   unfold rkI at this
   by_cases c : V < 0
   ·rw [decide_eq_true c, if_pos rfl] at this; rw [if_pos c, decide_eq_true c]; exact this
   ·rw [decide_eq_false c, if_neg (by decide)] at this; rw [if_neg c, decide_eq_false c]; exact this
theorem quo_le {f : Int} {F : Fmt} (h : Fm f F) {V V' W : Int} {s s' c : Nat} (w0 : 0 < W) (hle : V ≤ V') (hs : Nq F (V.natAbs * c) W.natAbs s) (hs' : Nq F (V'.natAbs * c) W.natAbs s') : (if V < 0 then -(s : Int) else (s : Int)) ≤ (if V' < 0 then -(s' : Int) else (s' : Int)) := by
 have m : ∀ {A B x y : Nat}, A ≤ B → Nq F (A * c) W.natAbs x → Nq F (B * c) W.natAbs y → x ≤ y := fun hAB a b => nq_mono h (by omega) (by omega) (Nat.mul_le_mul_right _ (Nat.mul_le_mul_right _ hAB)) a b
 by_cases c1 : V < 0
 ·rw [if_pos c1]
  by_cases c2 : V' < 0
  ·rw [if_pos c2]
   have := m (show V'.natAbs ≤ V.natAbs by omega) hs' hs
   omega
  ·rw [if_neg c2]; omega
 ·rw [if_neg c1, if_neg (by omega)]
  have := m (show V.natAbs ≤ V'.natAbs by omega) hs hs'
  omega
theorem root_fn {f : Int} {F : Fmt} (h : Fm f F) {v : Vl} {r : Nat} (hv : finV v) (v0 : 0 ≤ valV v) (hr : RootR F v r) : ∃ s, s ≤ F.inf ∧ Nr F ((valV v).natAbs * 2^(-F.low).toNat) 1 s ∧ Fn F r (s : Int) := by
 cases v with
 | nan => exact hv.elim
 | inf n => exact hv.elim
 | nou n =>
  have e : r = pat F n 0 := hr
  refine ⟨0, by omega, ?_, ?_⟩
  ·show Nr F ((0 : Int).natAbs * _) 1 0
   rw [show (0 : Int).natAbs = 0 from rfl, Nat.zero_mul]
   refine ⟨by omega, fun _ => .inl ?_, fun t ht => by omega⟩
   have := nF_step h 0
   have : 0 < md F 0 0 := by unfold md; exact Nat.mul_pos (by omega) (Nat.two_pow_pos 0)
   exact Nat.mul_pos (Nat.mul_pos this this) (by decide)
  ·rw [e]
   have := fn_pat h n (s := 0) (by omega)
   rw [rkI_zero] at this
   exact this
 | num V =>
  have v0 : 0 ≤ V := v0
  rcases hr with ⟨q, _⟩ | ⟨_, s, hs, rfl⟩
  ·omega
  ·exact ⟨r, hs.le, hs, fn_pat h false hs.le⟩
theorem loop_ev {f : Int} {F : Fmt} (h : Fm f F) {a b c z : Nat} (ha : a < 2 * F.sg) (hb : b < 2 * F.sg) (hc : c < 2 * F.sg) (fa : a % F.sg < F.inf) (fb : b % F.sg < F.inf) (fc : c % F.sg < F.inf) (hab : rkB F a ≤ rkB F b) (hz : z = c % F.sg) :
  Ev (fun k => gnomonlaw09_SoftOrders.l0 k (a : Int) (b : Int) (c : Int) f (z : Int) 1 ((F.sg : Nat) : Int)) true := by
 have hsz := h.sz
 have va := fin_rd h fa
 have vb := fin_rd h fb
 have vc := fin_rd h fc
 have zl : z < F.sg := by rw [hz]; exact Nat.mod_lt _ (by omega)
 have zm : z % F.sg = z := Nat.mod_eq_of_lt zl
 have zp : decide (F.sg ≤ z) = false := decide_eq_false (by omega)
 have fz : z % F.sg < F.inf := by rw [zm, hz]; exact fc
 have vz := fin_rd h fz
 have z0 : 0 ≤ valV (rdB F z) := by rw [vz.2, zp]; show 0 ≤ ((nF F (z % F.sg) : Nat) : Int); omega
 have hv := val_le h fa fb hab
 have zz : z < 2 * F.sg := by omega
 have w1 : wrap64 (1 + 1) = 2 := w64 (by decide) (by decide)
 have w2 : wrap64 (2 + 1) = 3 := w64 (by decide) (by decide)
 have w3 : wrap64 (3 + 1) = 4 := w64 (by decide) (by decide)
 have w4 : wrap64 (4 + 1) = 5 := w64 (by decide) (by decide)
 have w5 : wrap64 (5 + 1) = 6 := w64 (by decide) (by decide)
 have l6 : Ev (fun k => gnomonlaw09_SoftOrders.l0 k (a : Int) (b : Int) (c : Int) f (z : Int) 6 ((F.sg : Nat) : Int)) true := by
  refine Ev.succ ?_
  simp only [gnomonlaw09_SoftOrders.l0]
  exact Ev.congr (fun k => if_neg (by decide)) (Ev.now _)
 have l5 : Ev (fun k => gnomonlaw09_SoftOrders.l0 k (a : Int) (b : Int) (c : Int) f (z : Int) 5 ((F.sg : Nat) : Int)) true := by
  refine Ev.succ ?_
  simp only [gnomonlaw09_SoftOrders.l0, w5]
  refine Ev.congr (fun k => if_pos (by decide)) (Ev.congr (fun k => if_neg (by decide)) (Ev.congr (fun k => if_neg (by decide)) (Ev.congr (fun k => if_neg (by decide)) (Ev.congr (fun k => if_neg (by decide)) (Ev.congr (fun k => if_pos trivial) ?_)))))
  by_cases q : F.sg ≤ a
  ·exact Ev.congr (fun k => if_pos (by omega)) l6
  ·refine Ev.congr (fun k => if_neg (by omega)) ?_
   have a0 : 0 ≤ valV (rdB F a) := by rw [va.2, decide_eq_false q]; show 0 ≤ ((nF F (a % F.sg) : Nat) : Int); omega
   obtain ⟨r1, h1, e1⟩ := sqrt_ev h ha
   obtain ⟨r2, h2, e2⟩ := sqrt_ev h hb
   obtain ⟨s1, i1, q1, n1⟩ := root_fn h va.1 a0 h1
   obtain ⟨s2, i2, q2, n2⟩ := root_fn h vb.1 (by omega) h2
   refine Ev.bind e1 (Ev.bind e2 (cmp_ev h n1 n2 ?_ l6))
   have := nr_mono h (by decide) (by decide) (Nat.mul_le_mul_right _ (Nat.mul_le_mul_right _ (show (valV (rdB F a)).natAbs ≤ (valV (rdB F b)).natAbs by omega))) q1 q2
   omega
 have l4 : Ev (fun k => gnomonlaw09_SoftOrders.l0 k (a : Int) (b : Int) (c : Int) f (z : Int) 4 ((F.sg : Nat) : Int)) true := by
  refine Ev.succ ?_
  simp only [gnomonlaw09_SoftOrders.l0, w4]
  refine Ev.congr (fun k => if_pos (by decide)) (Ev.congr (fun k => if_neg (by decide)) (Ev.congr (fun k => if_neg (by decide)) (Ev.congr (fun k => if_neg (by decide)) (Ev.congr (fun k => if_pos trivial) ?_))))
  by_cases q : z = 0
  ·exact Ev.congr (fun k => if_pos (by omega)) l5
  ·refine Ev.congr (fun k => if_neg (by omega)) ?_
   have zp2 : 0 < valV (rdB F z) := by
    rw [vz.2, zp, zm]
    have := nF_ne h q
    show 0 < ((nF F z : Nat) : Int); omega
   obtain ⟨r1, h1, e1⟩ := div_ev h ha zz
   obtain ⟨r2, h2, e2⟩ := div_ev h hb zz
   obtain ⟨s1, i1, q1, n1⟩ := quo_fn h va.1 vz.1 zp2 h1
   obtain ⟨s2, i2, q2, n2⟩ := quo_fn h vb.1 vz.1 zp2 h2
   exact Ev.bind e1 (Ev.bind e2 (cmp_ev h n1 n2 (quo_le h zp2 hv q1 q2) l5))
 have l3 : Ev (fun k => gnomonlaw09_SoftOrders.l0 k (a : Int) (b : Int) (c : Int) f (z : Int) 3 ((F.sg : Nat) : Int)) true := by
  refine Ev.succ ?_
  simp only [gnomonlaw09_SoftOrders.l0, w3]
  refine Ev.congr (fun k => if_pos (by decide)) (Ev.congr (fun k => if_neg (by decide)) (Ev.congr (fun k => if_neg (by decide)) (Ev.congr (fun k => if_pos trivial) ?_)))
  have t1 := fin_times va.1 vz.1
  have t2 := fin_times vb.1 vz.1
  refine Ev.bind (mul_ev h ha zz) (Ev.bind (mul_ev h hb zz) (cmp_ev h (fn_tell h t1.1) (fn_tell h t2.1) (rz_mono h ?_) l4))
  rw [t1.2, t2.2]
  exact Int.mul_le_mul_of_nonneg_right hv z0
 have l2 : Ev (fun k => gnomonlaw09_SoftOrders.l0 k (a : Int) (b : Int) (c : Int) f (z : Int) 2 ((F.sg : Nat) : Int)) true := by
  refine Ev.succ ?_
  simp only [gnomonlaw09_SoftOrders.l0, w2]
  refine Ev.congr (fun k => if_pos (by decide)) (Ev.congr (fun k => if_neg (by decide)) (Ev.congr (fun k => if_pos trivial) ?_))
  have u1 := fin_turn vb.1
  have u2 := fin_turn va.1
  have t1 := fin_plus vc.1 u1.1
  have t2 := fin_plus vc.1 u2.1
  refine Ev.bind (sub_ev h hc hb) (Ev.bind (sub_ev h hc ha) (cmp_ev h (fn_tell h t1.1) (fn_tell h t2.1) (rz_mono h ?_) l3))
  rw [t1.2, t2.2, u1.2, u2.2]
  omega
 refine Ev.succ ?_
 simp only [gnomonlaw09_SoftOrders.l0, w1]
 refine Ev.congr (fun k => if_pos (by decide)) (Ev.congr (fun k => if_pos trivial) ?_)
 have t1 := fin_plus va.1 vc.1
 have t2 := fin_plus vb.1 vc.1
 refine Ev.bind (add_ev h ha hc) (Ev.bind (add_ev h hb hc) (cmp_ev h (fn_tell h t1.1) (fn_tell h t2.1) (rz_mono h ?_) l2))
 rw [t1.2, t2.2]
 omega
theorem away_ev {f : Int} {F : Fmt} (h : Fm f F) {c : Nat} (hc : c < 2 * F.sg) (fc : c % F.sg < F.inf) : Ev (fun k => soft_Abs.f k f (c : Int)) (((c % F.sg : Nat) : Int), 0) := by
 have hz := h.sz
 have e := abs_ev h hc
 have r : tellV F 0 (awayV (rdB F c)) = c % F.sg := by
  have e2 : awayV (rdB F c) = rdV F false (c % F.sg) := by
   unfold rdB rdV
   by_cases q : c % F.sg = 0
   ·rw [if_pos q, if_pos q]; rfl
   ·rw [if_neg q, if_neg q, if_pos fc, if_pos fc]
    show Vl.num _ = Vl.num _
    rw [sv_abs]; rfl
  rw [e2, tell_rd h false (by omega)]
  rfl
 rw [r] at e
 exact e
theorem law_ev (s : Bool) (a0 b0 c0 : Nat) (ha0 : a0 < 18446744073709551616) (hb0 : b0 < 18446744073709551616) (hc0 : c0 < 18446744073709551616) : Ev (fun k => gnomonlaw09_SoftOrders.f k s (a0 : Int) (b0 : Int) (c0 : Int)) true := by
 obtain ⟨f, F, P, Ee, G, Q, K⟩ := form_k s
 have h := K.fm
 have hz := h.sz
 unfold gnomonlaw09_SoftOrders.f
 refine Ev.bind awake_ev (Ev.congr (fun k => if_pos rfl) (Ev.bind (ev_eq K.form) (Ev.bind (ev_eq (sizes_f h P Ee G Q a0 ha0)) (Ev.bind (ev_eq (sizes_f h P Ee G Q b0 hb0)) (Ev.bind (ev_eq (sizes_f h P Ee G Q c0 hc0)) ?_)))))
 obtain ⟨a, hA⟩ : ∃ a, a = a0 % (2 * F.sg) := ⟨_, rfl⟩
 obtain ⟨b, hB⟩ : ∃ b, b = b0 % (2 * F.sg) := ⟨_, rfl⟩
 obtain ⟨c, hC⟩ : ∃ c, c = c0 % (2 * F.sg) := ⟨_, rfl⟩
 have ha : a < 2 * F.sg := by rw [hA]; exact Nat.mod_lt _ (by omega)
 have hb : b < 2 * F.sg := by rw [hB]; exact Nat.mod_lt _ (by omega)
 have hc : c < 2 * F.sg := by rw [hC]; exact Nat.mod_lt _ (by omega)
 rw [← hA, ← hB, ← hC]
 dsimp only
 by_cases fa : a % F.sg < F.inf
 rotate_left
 ·rw [decide_eq_false fa]
  exact Ev.congr (fun k => if_neg (by decide)) (Ev.now _)
 rw [decide_eq_true fa]
 refine Ev.congr (fun k => if_pos rfl) ?_
 by_cases fb : b % F.sg < F.inf
 rotate_left
 ·rw [decide_eq_false fb]
  exact Ev.congr (fun k => if_neg (by decide)) (Ev.now _)
 rw [decide_eq_true fb]
 refine Ev.congr (fun k => if_pos rfl) ?_
 by_cases fc : c % F.sg < F.inf
 rotate_left
 ·rw [decide_eq_false fc]
  exact Ev.congr (fun k => if_neg (by decide)) (Ev.now _)
 rw [decide_eq_true fc]
 refine Ev.congr (fun k => if_pos rfl) ?_
 have e := compare_ev h ha hb
 have ec : cmpB F a b = cmZ (rkB F a) (rkB F b) := by unfold cmpB; rw [if_neg (by omega)]
 rw [ec] at e
 refine Ev.bind e (Ev.congr (fun k => if_pos rfl) ?_)
 dsimp only
 have aw := away_ev h hc fc
 unfold cmZ
 by_cases k1 : rkB F a < rkB F b
 ·rw [if_pos k1]
  refine Ev.congr (fun k => if_neg (by decide)) (Ev.congr (fun k => if_neg (by decide)) (Ev.congr (fun k => if_neg (by decide)) ?_))
  exact Ev.bind aw (Ev.congr (fun k => if_pos rfl) (loop_ev h ha hb hc fa fb fc (by omega) rfl))
 ·rw [if_neg k1]
  by_cases k2 : rkB F b < rkB F a
  ·rw [if_pos k2]
   refine Ev.congr (fun k => if_neg (by decide)) (Ev.congr (fun k => if_neg (by decide)) (Ev.congr (fun k => if_pos rfl) ?_))
   exact Ev.bind aw (Ev.congr (fun k => if_pos rfl) (loop_ev h hb ha hc fb fa fc (by omega) rfl))
  ·rw [if_neg k2]
   refine Ev.congr (fun k => if_neg (by decide)) (Ev.congr (fun k => if_neg (by decide)) (Ev.congr (fun k => if_neg (by decide)) ?_))
   exact Ev.bind aw (Ev.congr (fun k => if_pos rfl) (loop_ev h ha hb hc fa fb fc (by omega) rfl))
theorem law_row (a0 : Bool) (a1 a2 a3 : Int) (w1 : (Lit.int .u64 a1).wf = true) (w2 : (Lit.int .u64 a2).wf = true) (w3 : (Lit.int .u64 a3).wf = true) : Ev (fun k => gnomonlaw09_SoftOrders.f k a0 a1 a2 a3) true := by
 have e1 : IntKind.u64.min = 0 := rfl
 have e2 : IntKind.u64.max = 18446744073709551615 := rfl
 have h1 : IntKind.u64.min ≤ a1 ∧ a1 ≤ IntKind.u64.max := by simpa [Lit.wf] using w1
 have h2 : IntKind.u64.min ≤ a2 ∧ a2 ≤ IntKind.u64.max := by simpa [Lit.wf] using w2
 have h3 : IntKind.u64.min ≤ a3 ∧ a3 ≤ IntKind.u64.max := by simpa [Lit.wf] using w3
 obtain ⟨a, rfl⟩ : ∃ a : Nat, a1 = (a : Int) := ⟨a1.toNat, by omega⟩
 obtain ⟨b, rfl⟩ : ∃ b : Nat, a2 = (b : Int) := ⟨a2.toNat, by omega⟩
 obtain ⟨c, rfl⟩ : ∃ c : Nat, a3 = (c : Int) := ⟨a3.toNat, by omega⟩
 exact law_ev a0 a b c (by omega) (by omega) (by omega)
end Go.Proofs.YtokoadgahflafaaGreatDoor.SoftOrdersL
end
section
namespace Go.Proofs.YtokoadgahflafaaGreatDoor.PRef
open Go.RowKit Go.Proofs.YtokoadgahflafaaGreatDoorW.PrintWords Go.Proofs.YtokoadgahflafaaGreatDoorW.PrintLast Go.Proofs.YtokoadgahflafaaGreatDoorW.PrintMore Go.Proofs.YtokoadgahflafaaGreatDoor.Given Go.Proofs.YtokoadgahflafaaGreatDoor.GTab
attribute [local go_sem] max2_int min2_int max_two min_two max_three min_three max_four min_four   -- for this text's walks alone
set_option linter.unusedVariables false
set_option linter.unusedSimpArgs false
def errW : Option Int → Value
 | none => .nilIface
 | some c => .iface 0 (.int .i64 c)
theorem errW_none : errW none = .nilIface := rfl
theorem errW_some (c : Int) : errW (some c) = .iface 0 (.int .i64 c) := rfl
theorem info67 : (Tryz.prog.info? 67).map (fun i => (i.zero, i.size, i.bytes)) = some (some (.int .u32 0), 1, 4) := by kernel_rfl
end Go.Proofs.YtokoadgahflafaaGreatDoor.PRef
end
