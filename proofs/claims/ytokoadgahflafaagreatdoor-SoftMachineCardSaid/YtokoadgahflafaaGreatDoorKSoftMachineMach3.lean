/- The machine's binary64 order is layer 9's: plain Lean over the model's words. Condition: words. -/
import Derived.Test.YtokoadgahflafaaGreatDoorKSoftMachineMach2
set_option linter.unusedVariables false
namespace Go.Proofs.YtokoadgahflafaaGreatDoor.Mach
open Go.RowKit Go.Proofs.YtokoadgahflafaaGreatDoor.Ref Go.Proofs.YtokoadgahflafaaGreatDoor.Rp3 Go.Proofs.YtokoadgahflafaaGreatDoor.Rp4 Go.Proofs.YtokoadgahflafaaGreatDoor.Rp5 Go.Proofs.YtokoadgahflafaaGreatDoor.Rp7 Go.Proofs.YtokoadgahflafaaGreatDoor.BinLaw Go.Proofs.YtokoadgahflafaaGreatDoor.Fm8 Go.Proofs.YtokoadgahflafaaGreatDoor.Rnd Go.Proofs.YtokoadgahflafaaGreatDoor.Sq Go.Proofs.YtokoadgahflafaaGreatDoor.Sf1 Go.Proofs.YtokoadgahflafaaGreatDoor.Sf2 Go.Proofs.YtokoadgahflafaaGreatDoor.Sf3 Go.Proofs.YtokoadgahflafaaGreatDoor.Sf5 Go.Proofs.YtokoadgahflafaaGreatDoor.Sf6 Go.Proofs.YtokoadgahflafaaGreatDoor.SoftOrdersL
open Ieee Fl
def ordC (i : Int) : Option Ordering := if i = 2 then none else if i = -1 then some .lt else if i = 0 then some .eq else some .gt
def ordV : Vl → Vl → Option Ordering
 | .nan, _ | _, .nan => none
 | .inf s, .inf t => some (compare t.toNat s.toNat)
 | .inf s, _ => some (if s then .lt else .gt)
 | _, .inf t => some (if t then .gt else .lt)
 | v, w => some (compare (valV v) (valV w))
theorem cmpI (a b : Int) : compare a b = if a < b then .lt else if a = b then .eq else .gt := rfl
theorem cmpI_mul {a b : Int} {P : Nat} (hP : 0 < P) : compare (a * (P : Int)) (b * (P : Int)) = compare a b := by
 have hp : (0 : Int) < (P : Int) := by omega
 rw [cmpI, cmpI]
 have e1 : (a * (P : Int) < b * (P : Int)) = (a < b) := by
  apply propext
  exact ⟨fun h => Int.lt_of_mul_lt_mul_right h (Int.le_of_lt hp), fun h => Int.mul_lt_mul_of_pos_right h hp⟩
 have e2 : (a * (P : Int) = b * (P : Int)) = (a = b) := by
  apply propext
  exact ⟨fun h => Int.eq_of_mul_eq_mul_right (by omega) h, fun h => by rw [h]⟩
 simp only [e1, e2]
theorem val_num {E i : Int} {s : Bool} {m : Nat} {v : Vl} (h : (m = 0 ∧ v = .nou s) ∨ (m ≠ 0 ∧ v = .num (sv s (m * 2^(i - E).toNat)))) : valV v = sv s (m * 2^(i - E).toNat) := by
 rcases h with ⟨e, rfl⟩ | ⟨_, rfl⟩
 ·rw [e, Nat.zero_mul, sv_zero]; rfl
 ·rfl
theorem sv_mulp (s : Bool) (m P : Nat) : sv s (m * P) = sv s m * (P : Int) := sv_mul s m P
theorem order_d {E : Int} {d d' : Datum} {v v' : Vl} (h : DatV E d v) (h' : DatV E d' v') : d.order d' = ordV v v' := by
 cases d with
 | nan a b => obtain rfl := h; cases d' <;> rfl
 | infinity s =>
  obtain rfl := h
  cases d' with
  | nan a b => obtain rfl := h'; rfl
  | infinity t => obtain rfl := h'; rfl
  | number t n j => obtain ⟨_, ⟨_, rfl⟩ | ⟨_, rfl⟩⟩ := h' <;> rfl
 | number s m i =>
  obtain ⟨hi, h⟩ := h
  cases d' with
  | nan a b => obtain rfl := h'; rcases h with ⟨_, rfl⟩ | ⟨_, rfl⟩ <;> rfl
  | infinity t => obtain rfl := h'; rcases h with ⟨_, rfl⟩ | ⟨_, rfl⟩ <;> rfl
  | number t n j =>
   obtain ⟨hj, h'⟩ := h'
   have e1 := val_num h
   have e2 := val_num h'
   have e3 : ordV v v' = some (compare (valV v) (valV v')) := by
    rcases h with ⟨_, rfl⟩ | ⟨_, rfl⟩ <;> rcases h' with ⟨_, rfl⟩ | ⟨_, rfl⟩ <;> rfl
   rw [e3, e1, e2]
   show some (compare (signed s m (i - min i j).toNat) (signed t n (j - min i j).toNat)) = _
   rw [signed_sv, signed_sv]
   obtain ⟨c, hc⟩ : ∃ c : Nat, c = (min i j - E).toNat := ⟨_, rfl⟩
   have f1 : (i - E).toNat = (i - min i j).toNat + c := by omega
   have f2 : (j - E).toNat = (j - min i j).toNat + c := by omega
   rw [f1, f2, Nat.pow_add, Nat.pow_add, ← Nat.mul_assoc, ← Nat.mul_assoc]
   generalize m * 2^(i - min i j).toNat = X
   generalize n * 2^(j - min i j).toNat = Y
   rw [sv_mulp s, sv_mulp t, cmpI_mul (Nat.two_pow_pos c)]
theorem val_lt {f : Int} {F : Fmt} (h : Fm f F) {a b : Nat} (ha : a % F.sg < F.inf) (hb : b % F.sg < F.inf) (hr : rkB F a < rkB F b) : valV (rdB F a) < valV (rdB F b) := by
 rw [(fin_rd h ha).2, (fin_rd h hb).2]
 unfold rkB at hr
 generalize decide (F.sg ≤ a) = na at *
 generalize decide (F.sg ≤ b) = nb at *
 generalize a % F.sg = s at *
 generalize b % F.sg = t at *
 have m1 : s < t → nF F s < nF F t := nF_lt h
 have m2 : t < s → nF F t < nF F s := nF_lt h
 have z1 : 0 < s → nF F 0 < nF F s := nF_lt h
 have z2 : 0 < t → nF F 0 < nF F t := nF_lt h
 have z3 : s = 0 → nF F s = 0 := fun e => by rw [e, nF_zero]
 have z4 : t = 0 → nF F t = 0 := fun e => by rw [e, nF_zero]
 generalize nF F s = x at *
 generalize nF F t = y at *
 generalize nF F 0 = z at *
 cases na <;> cases nb
 ·have hr : (s : Int) < (t : Int) := hr
  have := m1 (by omega)
  show (x : Int) < (y : Int); omega
 ·have hr : (s : Int) < -(t : Int) := hr
  omega
 ·have hr : -(s : Int) < (t : Int) := hr
  show -(x : Int) < (y : Int)
  by_cases c : 0 < s
  ·have := z1 c; omega
  ·have := z2 (by omega); omega
 ·have hr : -(s : Int) < -(t : Int) := hr
  have := m2 (by omega)
  show -(x : Int) < -(y : Int); omega
theorem fin_ord {v w : Vl} (hv : finV v) (hw : finV w) : ordV v w = some (compare (valV v) (valV w)) := by
 cases v <;> cases w <;> first | rfl | exact hv.elim | exact hw.elim
theorem inf_ord {w : Vl} (s : Bool) (hw : finV w) : ordV (.inf s) w = some (if s then .lt else .gt) := by
 cases w <;> first | rfl | exact hw.elim
theorem ord_inf {w : Vl} (s : Bool) (hw : finV w) : ordV w (.inf s) = some (if s then .gt else .lt) := by
 cases w <;> first | rfl | exact hw.elim
theorem rd_nan {F : Fmt} {a : Nat} (h : F.inf < a % F.sg) : rdB F a = .nan := by
 unfold rdB rdV
 rw [if_neg (by omega), if_neg (by omega), if_neg (by omega)]
theorem rd_inf {F : Fmt} (hi : 0 < F.inf) {a : Nat} (h : a % F.sg = F.inf) : rdB F a = .inf (decide (F.sg ≤ a)) := by
 unfold rdB rdV
 rw [if_neg (by omega), if_neg (by omega), if_pos h]
theorem cmZ_ord (a b : Int) : ordC (cmZ a b) = some (compare a b) := by
 rw [cmpI]
 unfold cmZ
 by_cases k1 : a < b
 ·rw [if_pos k1, if_pos k1]; rfl
 ·rw [if_neg k1, if_neg k1]
  by_cases k2 : b < a
  ·rw [if_pos k2, if_neg (by omega)]; rfl
  ·rw [if_neg k2, if_pos (by omega)]; rfl
theorem cmp_lt {a b : Int} (h : a < b) : compare a b = .lt := by rw [cmpI, if_pos h]
theorem cmp_gt {a b : Int} (h : b < a) : compare a b = .gt := by rw [cmpI, if_neg (by omega), if_neg (by omega)]
theorem order_B {a b : Nat} (ha : a < 18446744073709551616) (hb : b < 18446744073709551616) : double.order a b = ordC (cmpB fD a b) := by
 have i0 : 0 < fD.inf := by decide
 refine (order_d (read_v ha) (read_v hb)).trans ?_
 unfold cmpB
 by_cases c1 : fD.inf < a % fD.sg
 ·rw [if_pos (.inl c1), rd_nan c1]; cases rdB fD b <;> rfl
 by_cases c2 : fD.inf < b % fD.sg
 ·rw [if_pos (.inr c2), rd_nan c2]; cases rdB fD a <;> rfl
 rw [if_neg (by omega), cmZ_ord]
 by_cases d1 : a % fD.sg = fD.inf
 ·by_cases d2 : b % fD.sg = fD.inf
  ·rw [rd_inf i0 d1, rd_inf i0 d2]
   unfold rkB
   rw [d1, d2]
   generalize decide (fD.sg ≤ a) = x
   generalize decide (fD.sg ≤ b) = y
   cases x <;> cases y <;> decide
  ·have fb := fin_rd fD_ (show b % fD.sg < fD.inf by omega)
   rw [rd_inf i0 d1, inf_ord _ fb.1]
   unfold rkB
   rw [d1]
   generalize decide (fD.sg ≤ a) = x
   generalize decide (fD.sg ≤ b) = y
   cases x
   ·rw [cmp_gt (by unfold rkI; cases y <;> simp <;> omega)]; rfl
   ·rw [cmp_lt (by unfold rkI; cases y <;> simp <;> omega)]; rfl
 ·have fa := fin_rd fD_ (show a % fD.sg < fD.inf by omega)
  by_cases d2 : b % fD.sg = fD.inf
  ·rw [rd_inf i0 d2, ord_inf _ fa.1]
   unfold rkB
   rw [d2]
   generalize decide (fD.sg ≤ a) = x
   generalize decide (fD.sg ≤ b) = y
   cases y
   ·rw [cmp_lt (by unfold rkI; cases x <;> simp <;> omega)]; rfl
   ·rw [cmp_gt (by unfold rkI; cases x <;> simp <;> omega)]; rfl
  ·have fb := fin_rd fD_ (show b % fD.sg < fD.inf by omega)
   rw [fin_ord fa.1 fb.1]
   have l1 := val_lt fD_ (a := a) (b := b) (by omega) (by omega)
   have l2 := val_lt fD_ (a := b) (b := a) (by omega) (by omega)
   have l3 := val_le fD_ (a := a) (b := b) (by omega) (by omega)
   have l4 := val_le fD_ (a := b) (b := a) (by omega) (by omega)
   generalize valV (rdB fD a) = A at *
   generalize valV (rdB fD b) = B at *
   generalize rkB fD a = p at *
   generalize rkB fD b = q at *
   rw [cmpI, cmpI]
   by_cases k1 : p < q
   ·rw [if_pos k1, if_pos (l1 k1)]
   ·rw [if_neg k1, if_neg (by have := l4 (by omega); omega)]
    by_cases k2 : p = q
    ·rw [if_pos k2, if_pos (by have := l3 (by omega); have := l4 (by omega); omega)]
    ·rw [if_neg k2, if_neg (by have := l2 (by omega); omega)]
theorem order_self {b : Nat} (hb : b < 18446744073709551616) : double.order b b = if 9218868437227405312 < b % 9223372036854775808 then none else some .eq := by
 rw [order_B hb hb]
 unfold cmpB
 have a : fD.sg = 9223372036854775808 := rfl
 have c : fD.inf = 9218868437227405312 := rfl
 rw [← a, ← c]
 by_cases d : fD.inf < b % fD.sg
 ·rw [if_pos (.inl d), if_pos d]; rfl
 ·rw [if_neg (by omega), if_neg d, cmZ_ord, cmpI, if_neg (by omega), if_pos rfl]
end Go.Proofs.YtokoadgahflafaaGreatDoor.Mach
