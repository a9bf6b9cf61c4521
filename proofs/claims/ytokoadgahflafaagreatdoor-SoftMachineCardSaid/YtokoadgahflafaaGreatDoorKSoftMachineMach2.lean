/- The machine's binary64 quotients and order are layer 9's: plain Lean over the model's words. Condition: words. -/
import Derived.Test.YtokoadgahflafaaGreatDoorKSoftMachineMach
set_option linter.unusedVariables false
namespace Go.Proofs.YtokoadgahflafaaGreatDoor.Mach
open Go.RowKit Go.Proofs.YtokoadgahflafaaGreatDoor.Ref Go.Proofs.YtokoadgahflafaaGreatDoor.Rp3 Go.Proofs.YtokoadgahflafaaGreatDoor.Rp4 Go.Proofs.YtokoadgahflafaaGreatDoor.Rp5 Go.Proofs.YtokoadgahflafaaGreatDoor.Rp7 Go.Proofs.YtokoadgahflafaaGreatDoor.BinLaw Go.Proofs.YtokoadgahflafaaGreatDoor.Fm8 Go.Proofs.YtokoadgahflafaaGreatDoor.Rnd Go.Proofs.YtokoadgahflafaaGreatDoor.Sq Go.Proofs.YtokoadgahflafaaGreatDoor.Sf1 Go.Proofs.YtokoadgahflafaaGreatDoor.Sf2 Go.Proofs.YtokoadgahflafaaGreatDoor.Sf3 Go.Proofs.YtokoadgahflafaaGreatDoor.Sf5 Go.Proofs.YtokoadgahflafaaGreatDoor.Sf6 Go.Proofs.YtokoadgahflafaaGreatDoor.SoftOrdersL
open Ieee Fl
theorem stk_up' {f : Int} {F : Fmt} (h : Fm f F) {q K g s : Nat} (hq : 2^F.man ≤ q) (c : 2 * ((2 * q + 1) * 2^K) ≤ md F 0 s * 2^g) : 2 * ((2 * q + 2) * 2^K) ≤ md F 0 s * 2^g := by
 have e : ∀ x, 2 * (x * 2^K) = x * 2^(K + 1) := fun x => by rw [Nat.pow_succ]; rw [Nat.mul_left_comm, Nat.mul_comm 2]
 rw [e] at c ⊢
 rcases md_or h s g (K + 2) with ⟨d, hd⟩ | hd
 ·rw [hd, show K + 2 = K + 1 + 1 from rfl, Nat.pow_succ 2 (K + 1)] at c ⊢
  exact le_even c (Nat.two_pow_pos _)
 ·exfalso
  have e2 : 2^(F.man + (K + 2)) = 2 * 2^F.man * 2^(K + 1) := by rw [show F.man + (K + 2) = 1 + F.man + (K + 1) by omega, Nat.pow_add, Nat.pow_add]
  have l : 2 * 2^F.man * 2^(K + 1) ≤ (2 * q + 1) * 2^(K + 1) := Nat.mul_le_mul_right _ (by omega)
  omega
theorem stk_dn' {f : Int} {F : Fmt} (h : Fm f F) {q K g s : Nat} (hq : 2^F.man ≤ q) (c : md F 0 s * 2^g ≤ 2 * ((2 * q + 1) * 2^K)) : md F 0 s * 2^g ≤ 2 * (2 * q * 2^K) := by
 have e : ∀ x, 2 * (x * 2^K) = x * 2^(K + 1) := fun x => by rw [Nat.pow_succ]; rw [Nat.mul_left_comm, Nat.mul_comm 2]
 rw [e] at c ⊢
 rcases md_or h s g (K + 2) with ⟨d, hd⟩ | hd
 ·rw [hd, show K + 2 = K + 1 + 1 from rfl, Nat.pow_succ 2 (K + 1)] at c ⊢
  exact ge_even c (Nat.two_pow_pos _)
 ·have e2 : 2^(F.man + (K + 2)) = 2 * 2^F.man * 2^(K + 1) := by rw [show F.man + (K + 2) = 1 + F.man + (K + 1) by omega, Nat.pow_add, Nat.pow_add]
  have l : 2 * 2^F.man * 2^(K + 1) ≤ 2 * q * 2^(K + 1) := Nat.mul_le_mul_right _ (by omega)
  omega
theorem stk_quo' {f : Int} {F : Fmt} (h : Fm f F) {x b K g s : Nat} (hb : 0 < b) (hq : 2^F.man ≤ x / b) (a : Nst F g (stk (x / b) (x % b) * 2^K) s) : Nq F (x * 2^(K + 1)) (b * 2^g) s := by
 have dm := Nat.div_add_mod x b
 have lt := Nat.mod_lt x hb
 have pk := Nat.two_pow_pos K
 obtain ⟨q, eq⟩ : ∃ q, q = x / b := ⟨_, rfl⟩
 obtain ⟨r, er⟩ : ∃ r, r = x % b := ⟨_, rfl⟩
 rw [← eq, ← er] at a
 rw [← eq, ← er] at dm
 rw [← eq] at hq
 rw [← er] at lt
 have ex : 2 * (x * 2^(K + 1)) = 2 * (2 * x) * 2^K := by rw [Nat.pow_succ]; ac_rfl
 have eb : ∀ M, M * (b * 2^g) = M * 2^g * b := fun M => by ac_rfl
 by_cases r0 : r = 0
 ·have e0 : stk q r = 2 * q := by unfold stk; rw [if_pos r0]; rfl
  rw [e0] at a
  have e1 : x = q * b := by rw [← dm, r0, Nat.add_zero, Nat.mul_comm]
  have e2 : 2 * (x * 2^(K + 1)) = 2 * (2 * q * 2^K) * b := by rw [ex, e1]; ac_rfl
  refine ⟨a.le, fun c => ?_, fun t c => ?_⟩
  ·rw [e2, eb]
   rcases a.up c with y | ⟨y, y2⟩
   ·rw [md_g] at y; exact .inl (Nat.mul_lt_mul_of_pos_right y hb)
   ·rw [md_g] at y; exact .inr ⟨by rw [y], y2⟩
  ·rw [e2, eb]
   rcases a.dn t c with y | ⟨y, y2⟩
   ·rw [md_g] at y; exact .inl (Nat.mul_lt_mul_of_pos_right y hb)
   ·rw [md_g] at y; exact .inr ⟨by rw [y], y2⟩
 ·have e0 : stk q r = 2 * q + 1 := by unfold stk; rw [if_neg r0]
  rw [e0] at a
  have l1 : 2 * x < (2 * q + 2) * b := by
   have : (2 * q + 2) * b = 2 * (b * q) + 2 * b := by rw [Nat.add_mul, Nat.mul_assoc, Nat.mul_comm q]
   omega
  have l2 : 2 * q * b < 2 * x := by
   have : 2 * q * b = 2 * (b * q) := by rw [Nat.mul_assoc, Nat.mul_comm q]
   omega
  refine ⟨a.le, fun c => .inl ?_, fun t c => .inl ?_⟩
  ·have y : 2 * ((2 * q + 1) * 2^K) ≤ md F 0 s * 2^g := by rw [← md_g]; have := a.up c; omega
   have z := Nat.mul_le_mul_right b (stk_up' h hq y)
   rw [ex, eb]
   refine Nat.lt_of_lt_of_le ?_ z
   have e3 : 2 * ((2 * q + 2) * 2^K) * b = 2 * ((2 * q + 2) * b) * 2^K := by ac_rfl
   rw [e3]
   exact Nat.mul_lt_mul_of_pos_right (by omega) pk
  ·have y : md F 0 t * 2^g ≤ 2 * ((2 * q + 1) * 2^K) := by rw [← md_g]; have := a.dn t c; omega
   have z := Nat.mul_le_mul_right b (stk_dn' h hq y)
   rw [ex, eb]
   refine Nat.lt_of_le_of_lt z ?_
   have e3 : 2 * (2 * q * 2^K) * b = 2 * (2 * q * b) * 2^K := by ac_rfl
   rw [e3]
   exact Nat.mul_lt_mul_of_pos_right (by omega) pk
theorem ps {s : Bool} {m e : Nat} (m0 : m ≠ 0) : decide (sv s (m * 2^e) < 0) = s := sv_lt (Nat.mul_ne_zero m0 (Nat.pos_iff_ne_zero.1 (Nat.two_pow_pos _)))
theorem quot_v {d d' : Datum} {v v' : Vl} (h : DatV (-1074) d v) (h' : DatV (-1074) d' v') : (d.quotient 54 d' = none ∧ ∀ r, QuoR fD v v' r ↔ r = fD.qt) ∨ ∃ r w, d.quotient 54 d' = some r ∧ double.write r = w ∧ QuoR fD v v' w ∧ w % fD.sg ≤ fD.inf := by
 have i1 : fD.inf < fD.sg := by decide
 have pm : ∀ n s, s ≤ fD.inf → pat fD n s % fD.sg ≤ fD.inf := fun n s hs => by rw [pat_mod fD n (by omega)]; exact hs
 have wi : ∀ s, double.write (.infinity s) = pat fD s fD.inf := fun s => by show double.word s double.infRung = _; rw [word_pat, d_inf]; rfl
 have wz : ∀ s i, double.write (.number s 0 i) = pat fD s 0 := fun s i => by show double.nearest s 0 i = _; unfold Format.nearest; rw [if_pos rfl, word_pat]
 cases d with
 | nan a b => obtain rfl := h; exact .inl ⟨by cases d' <;> rfl, fun r => by cases v' <;> exact Iff.rfl⟩
 | infinity s =>
  obtain rfl := h
  cases d' with
  | nan a b => obtain rfl := h'; exact .inl ⟨rfl, fun r => Iff.rfl⟩
  | infinity t => obtain rfl := h'; exact .inl ⟨rfl, fun r => Iff.rfl⟩
  | number t n j =>
   obtain ⟨hj, ⟨n0, rfl⟩ | ⟨n0, rfl⟩⟩ := h'
   ·exact .inr ⟨.infinity (s ^^ t), _, rfl, wi _, by show _ = pat fD (s != t) fD.inf; rw [xor_bne], pm _ _ (Nat.le_refl _)⟩
   ·exact .inr ⟨.infinity (s ^^ t), _, rfl, wi _, by show _ = pat fD (s != decide (sv t _ < 0)) fD.inf; rw [ps n0, xor_bne], pm _ _ (Nat.le_refl _)⟩
 | number s m i =>
  obtain ⟨hi, h⟩ := h
  cases d' with
  | nan a b => obtain rfl := h'; rcases h with ⟨_, rfl⟩ | ⟨_, rfl⟩ <;> exact .inl ⟨rfl, fun r => Iff.rfl⟩
  | infinity t =>
   obtain rfl := h'
   rcases h with ⟨m0, rfl⟩ | ⟨m0, rfl⟩
   ·exact .inr ⟨.number (s ^^ t) 0 0, _, rfl, wz _ _, by show _ = pat fD (s != t) 0; rw [xor_bne], pm _ _ (by decide)⟩
   ·exact .inr ⟨.number (s ^^ t) 0 0, _, rfl, wz _ _, by show _ = pat fD (decide (sv s _ < 0) != t) 0; rw [ps m0, xor_bne], pm _ _ (by decide)⟩
  | number t n j =>
   obtain ⟨hj, h'⟩ := h'
   rcases h' with ⟨n0, rfl⟩ | ⟨n0, rfl⟩
   ·rcases h with ⟨m0, rfl⟩ | ⟨m0, rfl⟩
    ·refine .inl ⟨?_, fun r => Iff.rfl⟩
     show (if n = 0 then (if m = 0 then none else _) else _) = none
     rw [if_pos n0, if_pos m0]
    ·refine .inr ⟨.infinity (s ^^ t), _, ?_, wi _, by show _ = pat fD (decide (sv s _ < 0) != t) fD.inf; rw [ps m0, xor_bne], pm _ _ (Nat.le_refl _)⟩
     show (if n = 0 then (if m = 0 then none else some (Datum.infinity (s ^^ t))) else _) = _
     rw [if_pos n0, if_neg m0]
   ·obtain ⟨S, hS⟩ : ∃ S : Nat, S = 54 + n.log2 - m.log2 := ⟨_, rfl⟩
    obtain ⟨x, hx⟩ : ∃ x, x = m * 2^S := ⟨_, rfl⟩
    have eq : (Datum.number s m i).quotient 54 (.number t n j) = some (.number (s ^^ t) (stk (x / n) (x % n)) (i - j - (S : Int) - 1)) := by
     show (if n = 0 then _ else some (Datum.number (s ^^ t) (2 * ((m <<< (54 + n.log2 - m.log2)) / n) + ((m <<< (54 + n.log2 - m.log2)) % n != 0).toNat) (i - j - ((54 + n.log2 - m.log2 : Nat) : Int) - 1))) = _
     rw [if_neg n0, Nat.shiftLeft_eq, ← hS, ← hx]
     unfold stk
     by_cases c : x % n = 0
     ·rw [c]; rfl
     ·rw [if_neg c, show (x % n != 0) = true from by simpa using c]; rfl
    rw [eq]
    rcases h with ⟨m0, rfl⟩ | ⟨m0, rfl⟩
    ·have x0 : x = 0 := by rw [hx, m0, Nat.zero_mul]
     have e0 : stk (x / n) (x % n) = 0 := by rw [x0, Nat.zero_div, Nat.zero_mod]; rfl
     rw [e0]
     exact .inr ⟨_, _, rfl, wz _ _, by show _ = pat fD (s != decide (sv t _ < 0)) 0; rw [ps n0, xor_bne], pm _ _ (by decide)⟩
    ·-- the quotient itself
     have hq : 2^fD.man ≤ x / n := by
      rw [Nat.le_div_iff_mul_le (Nat.pos_of_ne_zero n0), hx]
      have a1 : n < 2^(n.log2 + 1) := Nat.lt_log2_self
      have a2 : 2^m.log2 ≤ m := Nat.log2_self_le m0
      have a3 : 2^53 * n ≤ 2^53 * 2^(n.log2 + 1) := Nat.mul_le_mul_left _ (Nat.le_of_lt a1)
      have a4 : 2^m.log2 * 2^S ≤ m * 2^S := Nat.mul_le_mul_right _ a2
      rw [← Nat.pow_add] at a3 a4
      have a5 : 2^(53 + (n.log2 + 1)) ≤ 2^(m.log2 + S) := Nat.pow_le_pow_right (by decide) (by omega)
      exact Nat.le_trans a3 (Nat.le_trans a5 a4)
     obtain ⟨ea, hea⟩ : ∃ ea : Int, ea = i - j - (S : Int) - 1 := ⟨_, rfl⟩
     obtain ⟨E', hE'⟩ : ∃ E' : Int, E' = min ea (-1074) := ⟨_, rfl⟩
     obtain ⟨g, hg⟩ : ∃ g : Nat, E' = -1074 - (g : Int) := ⟨(-1074 - E').toNat, by omega⟩
     have st0 : stk (x / n) (x % n) ≠ 0 := by
      have := Nat.two_pow_pos fD.man
      unfold stk
      omega
     have w := nearest_pat hg (n := (s ^^ t)) (m := stk (x / n) (x % n)) (i := ea) (by omega) st0
     have ns := rsz_nst fD_ g (stk (x / n) (x % n) * 2^(ea - E').toNat)
     have q := stk_quo' fD_ (Nat.pos_of_ne_zero n0) hq ns
     rw [← hea]
     refine .inr ⟨_, _, rfl, w, ⟨rsz fD g (stk (x / n) (x % n) * 2^(ea - E').toNat), ?_, ?_⟩, pm _ _ ns.le⟩
     ·have pn := Nat.pos_of_ne_zero n0
      refine nq_cross (Nat.mul_pos pn (Nat.two_pow_pos _)) (by rw [sv_abs]; exact Nat.mul_pos pn (Nat.two_pow_pos _)) ?_ q
      rw [sv_abs, sv_abs, hx]
      have l : (-fD.low).toNat = 1074 := by decide
      obtain ⟨L, hL⟩ : ∃ L : Nat, L = (-fD.low).toNat := ⟨_, rfl⟩
      rw [← hL] at l ⊢
      have e1 : m * 2^S * 2^((ea - E').toNat + 1) * (n * 2^(j - -1074).toNat) = m * n * 2^(S + ((ea - E').toNat + 1) + (j - -1074).toNat) := by rw [Nat.pow_add 2 (S + ((ea - E').toNat + 1)) _, Nat.pow_add 2 S _]; ac_rfl
      have e2 : m * 2^(i - -1074).toNat * 2^L * (n * 2^g) = m * n * 2^((i - -1074).toNat + L + g) := by rw [Nat.pow_add 2 ((i - -1074).toNat + L) _, Nat.pow_add 2 (i - -1074).toNat _]; ac_rfl
      rw [e1, e2]
      clear e1 e2 q ns w
      congr 2
      omega
     ·rw [ps m0, ps n0, xor_bne]
def mach (r : Nat) : Nat := if 9218868437227405312 < r % 9223372036854775808 then 9221120237041090561 else r
theorem mach_tell {g : Nat} {v : Vl} (hn : v ≠ .nan) : mach (tellV fD g v) = tellV fD g v := by
 have k : ∀ n s, s ≤ fD.inf → ¬ 9218868437227405312 < pat fD n s % 9223372036854775808 := fun n s hs => by
  have e : (9223372036854775808 : Nat) = fD.sg := rfl
  have e2 : fD.inf = 9218868437227405312 := rfl
  have e3 : fD.inf < fD.sg := by decide
  rw [e, pat_mod fD n (by omega)]
  omega
 unfold mach
 rw [if_neg]
 cases v with
 | nan => exact absurd rfl hn
 | inf n => exact k n _ (Nat.le_refl _)
 | nou n => exact k n _ (by decide)
 | num V =>
  show ¬ 9218868437227405312 < Rp4.pv fD g V % 9223372036854775808
  unfold Rp4.pv
  split
  ·decide
  ·exact k _ _ (rsz_nst fD_ g _).le
theorem add_m {x y r : Nat} (hx : x < 18446744073709551616) (hy : y < 18446744073709551616) (val : ∀ v, double.add x y = some v → r = v) (nan : double.add x y = none → 9218868437227405312 < r % 9223372036854775808) : mach r = tellV fD 0 (plusV (rdB fD x) (rdB fD y)) := by
 rcases sum_v (read_v hx) (read_v hy) with ⟨e1, e2⟩ | ⟨d, e1, e2, e3⟩
 ·have n := nan (by unfold Format.add; rw [e2]; rfl)
  rw [e1]
  unfold mach
  rw [if_pos n]; rfl
 ·have := val (double.write d) (by unfold Format.add; rw [e1]; rfl)
  rw [this, write_v (g := 0) (by decide) e2 e3, mach_tell e3]
theorem sub_m {x y r : Nat} (hx : x < 18446744073709551616) (hy : y < 18446744073709551616) (val : ∀ v, double.sub x y = some v → r = v) (nan : double.sub x y = none → 9218868437227405312 < r % 9223372036854775808) : mach r = tellV fD 0 (plusV (rdB fD x) (turnV (rdB fD y))) := by
 rcases sum_v (read_v hx) (opp_v (read_v hy)) with ⟨e1, e2⟩ | ⟨d, e1, e2, e3⟩
 ·have n := nan (by unfold Format.sub; rw [e2]; rfl)
  rw [e1]
  unfold mach
  rw [if_pos n]; rfl
 ·have := val (double.write d) (by unfold Format.sub; rw [e1]; rfl)
  rw [this, write_v (g := 0) (by decide) e2 e3, mach_tell e3]
theorem mul_m {x y r : Nat} (hx : x < 18446744073709551616) (hy : y < 18446744073709551616) (val : ∀ v, double.mul x y = some v → r = v) (nan : double.mul x y = none → 9218868437227405312 < r % 9223372036854775808) : mach r = tellV fD (-fD.low).toNat (timesV (rdB fD x) (rdB fD y)) := by
 rcases product_v (read_v hx) (read_v hy) with ⟨e1, e2⟩ | ⟨d, e1, e2, e3⟩
 ·have n := nan (by unfold Format.mul; rw [e2]; rfl)
  rw [e1]
  unfold mach
  rw [if_pos n]; rfl
 ·have := val (double.write d) (by unfold Format.mul; rw [e1]; rfl)
  rw [this, write_v (g := (-fD.low).toNat) (by decide) e2 e3, mach_tell e3]
theorem quoR_uniq {v w : Vl} {r t : Nat} (h : QuoR fD v w r) (h' : QuoR fD v w t) (ho : okV w) : r = t := by
 cases v with
 | nan => cases w <;> exact h.trans h'.symm
 | inf a => cases w <;> exact h.trans h'.symm
 | nou a => cases w <;> exact h.trans h'.symm
 | num V =>
  cases w with
  | nan => exact h.trans h'.symm
  | inf b => exact h.trans h'.symm
  | nou b => exact h.trans h'.symm
  | num W =>
   obtain ⟨s, hs, e⟩ := h
   obtain ⟨s', hs', e'⟩ := h'
   have ho : W ≠ 0 := ho
   rw [e, e', nq_uniq fD_ (by omega) hs hs']
theorem div_m {x y r t : Nat} (hx : x < 18446744073709551616) (hy : y < 18446744073709551616) (val : ∀ v, double.div x y = some v → r = v) (nan : double.div x y = none → 9218868437227405312 < r % 9223372036854775808) (ht : QuoR fD (rdB fD x) (rdB fD y) t) : mach r = t := by
 rcases quot_v (read_v hx) (read_v hy) with ⟨e1, e2⟩ | ⟨d, w, e1, e2, e3, e4⟩
 ·have n := nan (by unfold Format.div; show (Datum.quotient 54 _ _).map _ = none; rw [e1]; rfl)
  rw [(e2 t).1 ht]
  unfold mach
  rw [if_pos n]; rfl
 ·have := val w (by unfold Format.div; show (Datum.quotient 54 _ _).map _ = some w; rw [e1, ← e2]; rfl)
  rw [this, quoR_uniq ht e3 (okV_rdB fD_ y)]
  unfold mach
  rw [if_neg]
  have a : fD.sg = 9223372036854775808 := rfl
  have b : fD.inf = 9218868437227405312 := rfl
  rw [a, b] at e4
  omega
end Go.Proofs.YtokoadgahflafaaGreatDoor.Mach
