/- Rounding of quotients and of roots to the sizes of a format, and what a sticky bit tells of them. Plain Lean; no program in sight. No condition. -/
import Derived.Test.YtokoadgahflafaaGreatDoorKSoftThroughDoubleRnd
set_option linter.unusedVariables false
namespace Go.Proofs.YtokoadgahflafaaGreatDoor.Sq
open Go.Proofs.YtokoadgahflafaaGreatDoor.BinLaw Go.Proofs.YtokoadgahflafaaGreatDoor.Ref Go.Proofs.YtokoadgahflafaaGreatDoor.Fm8 Go.Proofs.YtokoadgahflafaaGreatDoor.Rnd
structure Nq (F : Fmt) (n d s : Nat) : Prop where mk ::
 (le : s ≤ F.inf)
 (up : s < F.inf → 2 * n < md F 0 s * d ∨ (2 * n = md F 0 s * d ∧ s % 2 = 0))
 (dn : ∀ t, s = t + 1 → md F 0 t * d < 2 * n ∨ (md F 0 t * d = 2 * n ∧ s % 2 = 0))
theorem md_g (F : Fmt) (g s : Nat) : md F g s = md F 0 s * 2^g := by unfold md; rw [Nat.pow_zero, Nat.mul_one]
theorem nq_of_nst {F : Fmt} {g V s : Nat} (h : Nst F g V s) : Nq F V (2^g) s :=
 ⟨h.le, fun c => by rw [← md_g]; exact h.up c, fun t e => by rw [← md_g]; exact h.dn t e⟩
theorem nst_of_nq {F : Fmt} {g V s : Nat} (h : Nq F V (2^g) s) : Nst F g V s :=
 ⟨h.le, fun c => by rw [md_g]; exact h.up c, fun t e => by rw [md_g]; exact h.dn t e⟩
theorem nq_mono {f : Int} {F : Fmt} (h : Fm f F) {n d n' d' s s' : Nat} (hd : 0 < d) (hd' : 0 < d') (hV : n * d' ≤ n' * d) (a : Nq F n d s) (b : Nq F n' d' s') : s ≤ s' := by
 rcases Nat.lt_or_ge s' s with c | c
 ·exfalso
  obtain ⟨t, rfl⟩ : ∃ t, s = t + 1 := ⟨s - 1, by omega⟩
  have a1 := a.dn t rfl
  have b1 := b.up (by have := a.le; omega)
  have m1 := md_le h (g := 0) (show s' ≤ t by omega)
  have x1 : md F 0 t * d * d' ≤ 2 * n * d' := Nat.mul_le_mul_right _ (by omega)
  have x2 : 2 * n' * d ≤ md F 0 s' * d' * d := Nat.mul_le_mul_right _ (by omega)
  have x3 : 2 * (n * d') ≤ 2 * (n' * d) := Nat.mul_le_mul_left _ hV
  have e1 : 2 * n * d' = 2 * (n * d') := Nat.mul_assoc _ _ _
  have e2 : 2 * n' * d = 2 * (n' * d) := Nat.mul_assoc _ _ _
  have e3 : md F 0 s' * d' * d = md F 0 s' * d * d' := by rw [Nat.mul_right_comm]
  rcases Nat.lt_or_eq_of_le (show s' ≤ t by omega) with q | q
  ·have l := md_lt h (g := 0) q
   have l2 : md F 0 s' * d * d' < md F 0 t * d * d' := Nat.mul_lt_mul_of_pos_right (Nat.mul_lt_mul_of_pos_right l hd) hd'
   omega
  ·subst q
   rcases a1 with a1 | ⟨a1, a2⟩
   ·have y : md F 0 s' * d * d' < 2 * n * d' := Nat.mul_lt_mul_of_pos_right a1 hd'
    omega
   ·rcases b1 with b1 | ⟨b1, b2⟩
    ·have y : 2 * n' * d < md F 0 s' * d' * d := Nat.mul_lt_mul_of_pos_right b1 hd
     omega
    ·omega
 ·exact c
theorem nq_uniq {f : Int} {F : Fmt} (h : Fm f F) {n d s s' : Nat} (hd : 0 < d) (a : Nq F n d s) (b : Nq F n d s') : s = s' :=
 Nat.le_antisymm (nq_mono h hd hd (Nat.le_refl _) a b) (nq_mono h hd hd (Nat.le_refl _) b a)
theorem nq_scale {F : Fmt} {n d s c : Nat} (hc : 0 < c) (h : Nq F (n * c) (d * c) s) : Nq F n d s := by
 have e : ∀ M, M * (d * c) = M * d * c := fun M => (Nat.mul_assoc _ _ _).symm
 have e2 : 2 * (n * c) = 2 * n * c := (Nat.mul_assoc _ _ _).symm
 refine ⟨h.le, fun k => ?_, fun t k => ?_⟩
 ·have := h.up k
  rw [e, e2] at this
  rcases this with q | ⟨q, q2⟩
  ·exact .inl (Nat.lt_of_mul_lt_mul_right q)
  ·exact .inr ⟨Nat.eq_of_mul_eq_mul_right hc q, q2⟩
 ·have := h.dn t k
  rw [e, e2] at this
  rcases this with q | ⟨q, q2⟩
  ·exact .inl (Nat.lt_of_mul_lt_mul_right q)
  ·exact .inr ⟨Nat.eq_of_mul_eq_mul_right hc q, q2⟩
theorem nq_scaled {F : Fmt} {n d s c : Nat} (hc : 0 < c) (h : Nq F n d s) : Nq F (n * c) (d * c) s := by
 have e : ∀ M, M * (d * c) = M * d * c := fun M => (Nat.mul_assoc _ _ _).symm
 have e2 : 2 * (n * c) = 2 * n * c := (Nat.mul_assoc _ _ _).symm
 refine ⟨h.le, fun k => ?_, fun t k => ?_⟩
 ·rw [e, e2]
  rcases h.up k with q | ⟨q, q2⟩
  ·exact .inl (Nat.mul_lt_mul_of_pos_right q hc)
  ·exact .inr ⟨by rw [q], q2⟩
 ·rw [e, e2]
  rcases h.dn t k with q | ⟨q, q2⟩
  ·exact .inl (Nat.mul_lt_mul_of_pos_right q hc)
  ·exact .inr ⟨by rw [q], q2⟩
theorem md_odd {f : Int} {F : Fmt} (h : Fm f F) (s : Nat) : md F 0 s = (2 * mgF F s + 1) * 2^(dF F s) := by
 unfold md
 rw [nF_next h, Nat.pow_zero, Nat.mul_one]
 unfold nF
 rw [Nat.add_mul, Nat.one_mul, Nat.mul_assoc 2]
 omega
theorem mg_lt2 {f : Int} {F : Fmt} (h : Fm f F) (s : Nat) : 2 * mgF F s + 1 < 2^(F.man + 1) := by
 obtain ⟨h0, -, -, -, -, hm, -, -, hm1⟩ := fm_hd h
 have e : 2^(F.man + 1) = 4 * hdF F := by
  rw [hm, show F.man + 1 = (F.man - 1) + 2 by omega, Nat.pow_add]
  omega
 have := Nat.mod_lt s h0
 unfold mgF
 split <;> omega
theorem md_or {f : Int} {F : Fmt} (h : Fm f F) (s g k : Nat) : (∃ c, md F 0 s * 2^g = 2^k * c) ∨ md F 0 s * 2^g < 2^(F.man + k) := by
 rw [md_odd h, Nat.mul_assoc, ← Nat.pow_add]
 by_cases c : k ≤ dF F s + g
 ·left
  refine ⟨(2 * mgF F s + 1) * 2^(dF F s + g - k), ?_⟩
  rw [Nat.mul_left_comm, ← Nat.pow_add]
  congr 2
  omega
 ·right
  have l := mg_lt2 h s
  have e : 2^(F.man + k) = 2^(F.man + 1) * 2^(k - 1) := by rw [← Nat.pow_add]; congr 1; omega
  rw [e]
  have p : 2^(dF F s + g) ≤ 2^(k - 1) := Nat.pow_le_pow_right (by decide) (by omega)
  exact Nat.lt_of_le_of_lt (Nat.mul_le_mul_left _ p) (Nat.mul_lt_mul_of_pos_right l (Nat.two_pow_pos _))
def stk (q r : Nat) : Nat := 2 * q + if r = 0 then 0 else 1
theorem le_even {q w c : Nat} (h : (2 * q + 1) * w ≤ w * 2 * c) (hw : 0 < w) : (2 * q + 2) * w ≤ w * 2 * c := by
 have e : w * 2 * c = (2 * c) * w := by rw [Nat.mul_assoc, Nat.mul_comm]
 rw [e] at h ⊢
 have := Nat.le_of_mul_le_mul_right h hw
 exact Nat.mul_le_mul_right _ (by omega)
theorem ge_even {q w c : Nat} (h : w * 2 * c ≤ (2 * q + 1) * w) (hw : 0 < w) : w * 2 * c ≤ 2 * q * w := by
 have e : w * 2 * c = (2 * c) * w := by rw [Nat.mul_assoc, Nat.mul_comm]
 rw [e] at h ⊢
 have := Nat.le_of_mul_le_mul_right h hw
 exact Nat.mul_le_mul_right _ (by omega)
theorem stk_up {f : Int} {F : Fmt} (h : Fm f F) {q K g s : Nat} (hq : 2^(F.man + 2) ≤ q) (c : 2 * ((2 * q + 1) * 2^K) ≤ md F 0 s * 2^g) : 2 * ((2 * q + 2) * 2^K) ≤ md F 0 s * 2^g := by
 have p := Nat.two_pow_pos K
 have e : ∀ x, 2 * (x * 2^K) = x * 2^(K + 1) := fun x => by rw [Nat.pow_succ]; rw [Nat.mul_left_comm, Nat.mul_comm 2]
 rw [e] at c ⊢
 rcases md_or h s g (K + 2) with ⟨d, hd⟩ | hd
 ·rw [hd, show K + 2 = K + 1 + 1 from rfl, Nat.pow_succ 2 (K + 1)] at c ⊢
  exact le_even c (Nat.two_pow_pos _)
 ·exfalso
  have e2 : 2^(F.man + (K + 2)) = 2^(F.man + 1) * 2^(K + 1) := by rw [← Nat.pow_add]; congr 1; omega
  have l : 2^(F.man + 1) * 2^(K + 1) ≤ (2 * q + 1) * 2^(K + 1) := Nat.mul_le_mul_right _ (by
   have : 2^(F.man + 2) = 2 * 2^(F.man + 1) := by rw [Nat.pow_succ, Nat.mul_comm]
   omega)
  omega
theorem stk_dn {f : Int} {F : Fmt} (h : Fm f F) {q K g s : Nat} (hq : 2^(F.man + 2) ≤ q) (c : md F 0 s * 2^g ≤ 2 * ((2 * q + 1) * 2^K)) : md F 0 s * 2^g ≤ 2 * (2 * q * 2^K) := by
 have p := Nat.two_pow_pos K
 have e : ∀ x, 2 * (x * 2^K) = x * 2^(K + 1) := fun x => by rw [Nat.pow_succ]; rw [Nat.mul_left_comm, Nat.mul_comm 2]
 rw [e] at c ⊢
 rcases md_or h s g (K + 2) with ⟨d, hd⟩ | hd
 ·rw [hd, show K + 2 = K + 1 + 1 from rfl, Nat.pow_succ 2 (K + 1)] at c ⊢
  exact ge_even c (Nat.two_pow_pos _)
 ·have e2 : 2^(F.man + (K + 2)) = 2^(F.man + 1) * 2^(K + 1) := by rw [← Nat.pow_add]; congr 1; omega
  have l : 2^(F.man + 1) * 2^(K + 1) ≤ 2 * q * 2^(K + 1) := Nat.mul_le_mul_right _ (by
   have : 2^(F.man + 2) = 2 * 2^(F.man + 1) := by rw [Nat.pow_succ, Nat.mul_comm]
   omega)
  omega
theorem stk_quo {f : Int} {F : Fmt} (h : Fm f F) {x b K g s : Nat} (hb : 0 < b) (hq : 2^(F.man + 2) ≤ x / b) (a : Nst F g (stk (x / b) (x % b) * 2^K) s) : Nq F (x * 2^(K + 1)) (b * 2^g) s := by
 have dm := Nat.div_add_mod x b
 have lt := Nat.mod_lt x hb
 have pk := Nat.two_pow_pos K
 obtain ⟨q, eq⟩ : ∃ q, q = x / b := ⟨_, rfl⟩
 obtain ⟨r, er⟩ : ∃ r, r = x % b := ⟨_, rfl⟩
 rw [← eq, ← er] at a
 rw [← eq, ← er] at dm
 rw [← eq] at hq
 rw [← er] at lt
 have ex : 2 * (x * 2^(K + 1)) = 2 * (2 * x) * 2^K := by rw [Nat.pow_succ]; ac_rfl
 have eb : ∀ M, M * (b * 2^g) = M * 2^g * b := fun M => by ac_rfl
 by_cases r0 : r = 0
 ·have e0 : stk q r = 2 * q := by unfold stk; rw [if_pos r0]; rfl
  rw [e0] at a
  have e1 : x = q * b := by rw [← dm, r0, Nat.add_zero, Nat.mul_comm]
  have e2 : 2 * (x * 2^(K + 1)) = 2 * (2 * q * 2^K) * b := by rw [ex, e1]; ac_rfl
  refine ⟨a.le, fun c => ?_, fun t c => ?_⟩
  ·rw [e2, eb]
   rcases a.up c with y | ⟨y, y2⟩
   ·rw [md_g] at y; exact .inl (Nat.mul_lt_mul_of_pos_right y hb)
   ·rw [md_g] at y; exact .inr ⟨by rw [y], y2⟩
  ·rw [e2, eb]
   rcases a.dn t c with y | ⟨y, y2⟩
   ·rw [md_g] at y; exact .inl (Nat.mul_lt_mul_of_pos_right y hb)
   ·rw [md_g] at y; exact .inr ⟨by rw [y], y2⟩
 ·have e0 : stk q r = 2 * q + 1 := by unfold stk; rw [if_neg r0]
  rw [e0] at a
  have l1 : 2 * x < (2 * q + 2) * b := by
   have : (2 * q + 2) * b = 2 * (b * q) + 2 * b := by rw [Nat.add_mul, Nat.mul_assoc, Nat.mul_comm q]
   omega
  have l2 : 2 * q * b < 2 * x := by
   have : 2 * q * b = 2 * (b * q) := by rw [Nat.mul_assoc, Nat.mul_comm q]
   omega
  refine ⟨a.le, fun c => .inl ?_, fun t c => .inl ?_⟩
  ·have y : 2 * ((2 * q + 1) * 2^K) ≤ md F 0 s * 2^g := by rw [← md_g]; have := a.up c; omega
   have z := Nat.mul_le_mul_right b (stk_up h hq y)
   rw [ex, eb]
   refine Nat.lt_of_lt_of_le ?_ z
   have e3 : 2 * ((2 * q + 2) * 2^K) * b = 2 * ((2 * q + 2) * b) * 2^K := by ac_rfl
   rw [e3]
   exact Nat.mul_lt_mul_of_pos_right (by omega) pk
  ·have y : md F 0 t * 2^g ≤ 2 * ((2 * q + 1) * 2^K) := by rw [← md_g]; have := a.dn t c; omega
   have z := Nat.mul_le_mul_right b (stk_dn h hq y)
   rw [ex, eb]
   refine Nat.lt_of_le_of_lt z ?_
   have e3 : 2 * (2 * q * 2^K) * b = 2 * (2 * q * b) * 2^K := by ac_rfl
   rw [e3]
   exact Nat.mul_lt_mul_of_pos_right (by omega) pk
structure Nr (F : Fmt) (n d s : Nat) : Prop where mk ::
 (le : s ≤ F.inf)
 (up : s < F.inf → 4 * n < md F 0 s * md F 0 s * d ∨ (4 * n = md F 0 s * md F 0 s * d ∧ s % 2 = 0))
 (dn : ∀ t, s = t + 1 → md F 0 t * md F 0 t * d < 4 * n ∨ (md F 0 t * md F 0 t * d = 4 * n ∧ s % 2 = 0))
theorem sq_lt {a b : Nat} (h : a < b) : a * a < b * b := Nat.mul_self_lt_mul_self h
theorem sq_le {a b : Nat} (h : a ≤ b) : a * a ≤ b * b := Nat.mul_self_le_mul_self h
theorem nr_mono {f : Int} {F : Fmt} (h : Fm f F) {n d n' d' s s' : Nat} (hd : 0 < d) (hd' : 0 < d') (hV : n * d' ≤ n' * d) (a : Nr F n d s) (b : Nr F n' d' s') : s ≤ s' := by
 rcases Nat.lt_or_ge s' s with c | c
 ·exfalso
  obtain ⟨t, rfl⟩ : ∃ t, s = t + 1 := ⟨s - 1, by omega⟩
  have a1 := a.dn t rfl
  have b1 := b.up (by have := a.le; omega)
  have m1 := sq_le (md_le h (g := 0) (show s' ≤ t by omega))
  have l0 : s' < t → md F 0 s' * md F 0 s' < md F 0 t * md F 0 t := fun q => sq_lt (md_lt h (g := 0) q)
  generalize md F 0 s' * md F 0 s' = u at *
  generalize hv : md F 0 t * md F 0 t = v at *
  have x1 : v * d * d' ≤ 4 * n * d' := Nat.mul_le_mul_right _ (by omega)
  have x2 : 4 * n' * d ≤ u * d' * d := Nat.mul_le_mul_right _ (by omega)
  have x3 : 4 * (n * d') ≤ 4 * (n' * d) := Nat.mul_le_mul_left _ hV
  have e1 : 4 * n * d' = 4 * (n * d') := Nat.mul_assoc _ _ _
  have e2 : 4 * n' * d = 4 * (n' * d) := Nat.mul_assoc _ _ _
  have e3 : u * d' * d = u * d * d' := by rw [Nat.mul_right_comm]
  have m2 : u * d * d' ≤ v * d * d' := Nat.mul_le_mul_right _ (Nat.mul_le_mul_right _ m1)
  rcases Nat.lt_or_eq_of_le (show s' ≤ t by omega) with q | q
  ·have l2 : u * d * d' < v * d * d' := Nat.mul_lt_mul_of_pos_right (Nat.mul_lt_mul_of_pos_right (l0 q) hd) hd'
   omega
  ·rcases a1 with a1 | ⟨a1, a2⟩
   ·have y : v * d * d' < 4 * n * d' := Nat.mul_lt_mul_of_pos_right a1 hd'
    omega
   ·rcases b1 with b1 | ⟨b1, b2⟩
    ·have y : 4 * n' * d < u * d' * d := Nat.mul_lt_mul_of_pos_right b1 hd
     omega
    ·omega
 ·exact c
theorem nr_uniq {f : Int} {F : Fmt} (h : Fm f F) {n d s s' : Nat} (hd : 0 < d) (a : Nr F n d s) (b : Nr F n d s') : s = s' :=
 Nat.le_antisymm (nr_mono h hd hd (Nat.le_refl _) a b) (nr_mono h hd hd (Nat.le_refl _) b a)
theorem stk_root {f : Int} {F : Fmt} (h : Fm f F) {x q K g s : Nat} (hx : q * q ≤ x) (hx2 : x < (q + 1) * (q + 1)) (hq : 2^(F.man + 2) ≤ q) (a : Nst F g (stk q (x - q * q) * 2^K) s) : Nr F (x * (2^(K + 1) * 2^(K + 1))) (2^g * 2^g) s := by
 have pk := Nat.two_pow_pos K
 have ex : 4 * (x * (2^(K + 1) * 2^(K + 1))) = 4 * (4 * x) * (2^K * 2^K) := by
  have : 2^(K + 1) * 2^(K + 1) = 4 * (2^K * 2^K) := by rw [Nat.pow_succ, show (4 : Nat) = 2 * 2 from rfl]; ac_rfl
  rw [this]; ac_rfl
 have em : ∀ M : Nat, M * M * (2^g * 2^g) = (M * 2^g) * (M * 2^g) := fun M => by ac_rfl
 have es : ∀ y : Nat, (2 * (y * 2^K)) * (2 * (y * 2^K)) = 4 * (y * y) * (2^K * 2^K) := fun y => by
  have : (4 : Nat) = 2 * 2 := rfl
  rw [this]; ac_rfl
 have pp : 0 < 2^K * 2^K := Nat.mul_pos pk pk
 by_cases r0 : x - q * q = 0
 ·have e0 : stk q (x - q * q) = 2 * q := by unfold stk; rw [if_pos r0]; rfl
  rw [e0] at a
  have e1 : 4 * x = 2 * q * (2 * q) := by
   have : 2 * q * (2 * q) = 4 * (q * q) := by rw [show (4 : Nat) = 2 * 2 from rfl]; ac_rfl
   omega
  have e2 : 4 * (x * (2^(K + 1) * 2^(K + 1))) = (2 * (2 * q * 2^K)) * (2 * (2 * q * 2^K)) := by rw [ex, es, e1]
  refine ⟨a.le, fun c => ?_, fun t c => ?_⟩
  ·rw [e2, em]
   rcases a.up c with y | ⟨y, y2⟩
   ·rw [md_g] at y; exact .inl (sq_lt y)
   ·rw [md_g] at y; exact .inr ⟨by rw [y], y2⟩
  ·rw [e2, em]
   rcases a.dn t c with y | ⟨y, y2⟩
   ·rw [md_g] at y; exact .inl (sq_lt y)
   ·rw [md_g] at y; exact .inr ⟨by rw [y], y2⟩
 ·have e0 : stk q (x - q * q) = 2 * q + 1 := by unfold stk; rw [if_neg r0]
  rw [e0] at a
  have l1 : 4 * x < (2 * q + 2) * (2 * q + 2) := by
   have : (2 * q + 2) * (2 * q + 2) = 4 * ((q + 1) * (q + 1)) := by
    rw [show 2 * q + 2 = 2 * (q + 1) by omega, show (4 : Nat) = 2 * 2 from rfl]; ac_rfl
   omega
  have l2 : 2 * q * (2 * q) < 4 * x := by
   have : 2 * q * (2 * q) = 4 * (q * q) := by rw [show (4 : Nat) = 2 * 2 from rfl]; ac_rfl
   omega
  refine ⟨a.le, fun c => .inl ?_, fun t c => .inl ?_⟩
  ·have y : 2 * ((2 * q + 1) * 2^K) ≤ md F 0 s * 2^g := by rw [← md_g]; have := a.up c; omega
   have z := sq_le (stk_up h hq y)
   rw [ex, em]
   refine Nat.lt_of_lt_of_le ?_ z
   rw [es]
   exact Nat.mul_lt_mul_of_pos_right (by omega) pp
  ·have y : md F 0 t * 2^g ≤ 2 * ((2 * q + 1) * 2^K) := by rw [← md_g]; have := a.dn t c; omega
   have z := sq_le (stk_dn h hq y)
   rw [ex, em]
   refine Nat.lt_of_le_of_lt z ?_
   rw [es]
   exact Nat.mul_lt_mul_of_pos_right (by omega) pp
end Go.Proofs.YtokoadgahflafaaGreatDoor.Sq
