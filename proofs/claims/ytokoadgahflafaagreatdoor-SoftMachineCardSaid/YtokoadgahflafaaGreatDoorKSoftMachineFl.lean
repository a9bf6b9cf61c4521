/- Sums, products, quotients and roots keep the order: the plain law of SoftOrders. Plain Lean over the functions. Condition: words. Rounding of whole numbers to 53 binary digits (to nearest, ties to even), the exact sums and products of floats, and the model's binary64 words as whole numbers of units 2^-1074. Plain Lean; no program in sight. No condition. -/
import Derived.Test.YtokoadgahflafaaGreatDoorKSoftMachineSf6
import Derived.Test.YtokoadgahflafaaGreatDoorKSoftMachineSq
import Derived.Test.YtokoadgahflafaaGreatDoorKSoftMachinePxBr
import Derived.Test.YtokoadgahflafaaGreatDoorKSoftMachineGM
import Derived.Test.YtokoadgahflafaaGreatDoorKSoftMachinePxMul
import Derived.Test.YtokoadgahflafaaGreatDoorKSoftMachinePxR0
import Derived.Test.YtokoadgahflafaaGreatDoorKSoftMachinePxOp
import Derived.Test.YtokoadgahflafaaGreatDoorKSoftMachinePxL0
import Derived.Test.YtokoadgahflafaaGreatDoorKSoftMachinePxL2
import Derived.Test.YtokoadgahflafaaGreatDoorKSoftMachinePxL3
import Derived.Test.YtokoadgahflafaaGreatDoorKSoftMachinePxL4
import Derived.Test.YtokoadgahflafaaGreatDoorKSoftMachinePxL1
import Ieee.Arith
import Derived.Laws.FloatBits
section
set_option linter.unusedVariables false
namespace Go.Proofs.YtokoadgahflafaaGreatDoor.SoftOrdersL
open Go.RowKit Go.Proofs.YtokoadgahflafaaGreatDoorW.PrintWords Go.Proofs.YtokoadgahflafaaGreatDoorW.PrintMore Go.Proofs.YtokoadgahflafaaGreatDoor.Num Go.Proofs.YtokoadgahflafaaGreatDoor.PLib Go.Proofs.YtokoadgahflafaaGreatDoor.Ref Go.Proofs.YtokoadgahflafaaGreatDoor.GTh Go.Proofs.YtokoadgahflafaaGreatDoor.Given Go.Proofs.YtokoadgahflafaaGreatDoor.Rp1 Go.Proofs.YtokoadgahflafaaGreatDoor.Rp2 Go.Proofs.YtokoadgahflafaaGreatDoor.Rp3 Go.Proofs.YtokoadgahflafaaGreatDoor.Rp4 Go.Proofs.YtokoadgahflafaaGreatDoor.Rp5 Go.Proofs.YtokoadgahflafaaGreatDoor.Rp7 Go.Proofs.YtokoadgahflafaaGreatDoor.BinLaw Go.Proofs.YtokoadgahflafaaGreatDoor.Fm8 Go.Proofs.YtokoadgahflafaaGreatDoor.Rnd Go.Proofs.YtokoadgahflafaaGreatDoor.Sq Go.Proofs.YtokoadgahflafaaGreatDoor.Px Go.Proofs.YtokoadgahflafaaGreatDoor.Sf1 Go.Proofs.YtokoadgahflafaaGreatDoor.Sf2 Go.Proofs.YtokoadgahflafaaGreatDoor.Sf3 Go.Proofs.YtokoadgahflafaaGreatDoor.Sf4 Go.Proofs.YtokoadgahflafaaGreatDoor.Sf5 Go.Proofs.YtokoadgahflafaaGreatDoor.Sf6
def valV : Vl → Int
 | .num V => V
 | _ => 0
def finV : Vl → Prop
 | .num V => V ≠ 0
 | .nou _ => True
 | _ => False
theorem fin_rd {f : Int} {F : Fmt} (h : Fm f F) {b : Nat} (hb : b % F.sg < F.inf) : finV (rdB F b) ∧ valV (rdB F b) = sv (decide (F.sg ≤ b)) (nF F (b % F.sg)) := by
 unfold rdB rdV
 by_cases c : b % F.sg = 0
 ·rw [if_pos c, c, nF_zero, sv_zero]; exact ⟨trivial, rfl⟩
 ·rw [if_neg c, if_pos hb]; exact ⟨sv_ne (nF_ne h c), rfl⟩
theorem val_le {f : Int} {F : Fmt} (h : Fm f F) {a b : Nat} (ha : a % F.sg < F.inf) (hb : b % F.sg < F.inf) (hr : rkB F a ≤ rkB F b) : valV (rdB F a) ≤ valV (rdB F b) := by
 rw [(fin_rd h ha).2, (fin_rd h hb).2]
 unfold rkB at hr
 generalize decide (F.sg ≤ a) = na at *
 generalize decide (F.sg ≤ b) = nb at *
 generalize a % F.sg = s at *
 generalize b % F.sg = t at *
 have m1 : s ≤ t → nF F s ≤ nF F t := nF_le h
 have m2 : t ≤ s → nF F t ≤ nF F s := nF_le h
 have z1 : s = 0 → nF F s = 0 := fun e => by rw [e, nF_zero]
 have z2 : t = 0 → nF F t = 0 := fun e => by rw [e, nF_zero]
 generalize nF F s = x at *
 generalize nF F t = y at *
 cases na <;> cases nb
 ·have hr : (s : Int) ≤ (t : Int) := hr
  have := m1 (by omega)
  show (x : Int) ≤ (y : Int); omega
 ·have hr : (s : Int) ≤ -(t : Int) := hr
  have := z1 (by omega)
  have := z2 (by omega)
  show (x : Int) ≤ -(y : Int); omega
 ·show -(x : Int) ≤ (y : Int); omega
 ·have hr : -(s : Int) ≤ -(t : Int) := hr
  have := m2 (by omega)
  show -(x : Int) ≤ -(y : Int); omega
end Go.Proofs.YtokoadgahflafaaGreatDoor.SoftOrdersL
end
section
namespace Fl
theorem pw (k : Nat) : 0 < (2:Nat)^k := Nat.two_pow_pos k
def rhe (n k : Nat) : Nat :=
 n / 2^k + (if 2^k < 2 * (n % 2^k) ∨ (2^k = 2 * (n % 2^k) ∧ (n / 2^k) % 2 = 1) then 1 else 0)
theorem rhe_exact {n k : Nat} (h : 2^k ∣ n) : rhe n k * 2^k = n := by
 have hz : n % 2^k = 0 := Nat.mod_eq_zero_of_dvd h
 have hd := Nat.div_add_mod n (2^k)
 have hp := pw k
 unfold rhe
 rw [hz] at *
 rw [if_neg (by omega), Nat.add_zero, Nat.mul_comm]
 omega
theorem rhe_scale (n k d : Nat) : rhe (n * 2^d) (k + d) = rhe n k := by
 have hp := pw d
 have e1 : n * 2^d / 2^(k+d) = n / 2^k := by
  rw [Nat.pow_add, Nat.mul_comm (2^k), Nat.mul_comm n, Nat.mul_div_mul_left _ _ hp]
 have e2 : n * 2^d % 2^(k+d) = n % 2^k * 2^d := by
  rw [Nat.pow_add, Nat.mul_mod_mul_right]
 unfold rhe
 rw [e1, e2]
 have e3 : (2^(k+d) < 2 * (n % 2^k * 2^d)) ↔ (2^k < 2 * (n % 2^k)) := by
  rw [Nat.pow_add, ← Nat.mul_assoc]
  exact Nat.mul_lt_mul_right hp
 have e4 : (2^(k+d) = 2 * (n % 2^k * 2^d)) ↔ (2^k = 2 * (n % 2^k)) := by
  rw [Nat.pow_add, ← Nat.mul_assoc]
  exact Nat.mul_right_cancel_iff hp ..
 simp only [e3, e4]
def kx (g n : Nat) : Nat := max (n.log2 - 52) g
end Fl
namespace Fl
def hx (g : Nat) (a : Int) : Nat := max (a.natAbs.log2 + 1 - 26) g
end Fl
namespace Fl
open Ieee
def sz (w : Nat) : Nat := w % 2^63
def ng (w : Nat) : Bool := w / 2^63 % 2 == 1
def INF : Nat := 2047 * 2^52
def mg (r : Nat) : Nat := if r < 2^52 then r else (2^52 + r % 2^52) * 2^(r / 2^52 - 1)
def U (w : Nat) : Int := if ng w then -(mg (sz w) : Nat) else (mg (sz w) : Nat)
theorem d_sign : double.signWeight = 2^63 := by decide
theorem d_binade : double.binade = 2^52 := by decide
theorem d_inf : double.infRung = INF := by decide
theorem d_least : double.leastPlace = -1074 := by decide
theorem d_frac : double.fractionBits = 52 := rfl
def rung (g V : Nat) : Nat := (kx g V - g) * 2^52 + rhe V (kx g V)
theorem kx_zero (g : Nat) : kx g 0 = g := by unfold kx; rw [Nat.log2_zero]; omega
theorem rhe_zero (k : Nat) : rhe 0 k = 0 := by
 have h := rhe_exact (n := 0) (k := k) (Nat.dvd_zero _)
 have := pw k
 rcases Nat.mul_eq_zero.1 h with h | h <;> omega
theorem rung_zero (g : Nat) : rung g 0 = 0 := by
 unfold rung; rw [kx_zero, rhe_zero]; omega
theorem mag_log2 {m d : Nat} (h : m ≠ 0) : (m * 2^d).log2 = m.log2 + d := by
 have := Nat.log2_self_le h
 have h2 : m < 2^(m.log2+1) := Nat.lt_log2_self
 rw [Nat.log2_eq_iff (by have := pw d; exact Nat.mul_ne_zero h (by omega))]
 constructor
 ·rw [Nat.pow_add]; exact Nat.mul_le_mul_right _ this
 ·rw [show m.log2 + d + 1 = (m.log2 + 1) + d from by omega, Nat.pow_add]
  exact Nat.mul_lt_mul_of_pos_right h2 (pw d)
theorem cut_rhe (n k : Nat) : Toward.even.cut false n k = rhe n k ∧ Toward.even.cut true n k = rhe n k := by
 have core : ∀ b, Toward.even.cut b n k = rhe n k := by
  intro b
  unfold Toward.cut rhe
  simp only [Nat.shiftLeft_eq, Nat.one_mul]
  by_cases hk : k ≤ n.log2 + 2
  ·rw [Nat.min_eq_left hk]
   congr 1
   by_cases h1 : 2^k < 2 * (n % 2^k)
   ·simp [h1]
   ·by_cases h2 : 2^k = 2 * (n % 2^k)
    ·by_cases h3 : n / 2^k % 2 = 1
     ·simp [← h2, h3]
     ·simp [← h2, h3]
    ·simp [h1, h2]
  ·rw [Nat.min_eq_right (by omega)]
   have h1 : n < 2^(n.log2 + 1) := Nat.lt_log2_self
   have e2 : 2^(n.log2+2) = 2 * 2^(n.log2+1) := by rw [Nat.pow_succ 2 (n.log2+1)]; omega
   have h2 : 2^(n.log2+2) ≤ 2^k := Nat.pow_le_pow_right (by decide) (by omega)
   have h3 : 2 * 2^(n.log2+2) ≤ 2^k := by
    have := Nat.pow_le_pow_right (n := 2) (by decide) (show n.log2+2+1 ≤ k by omega)
    rw [Nat.pow_succ] at this; omega
   rw [Nat.div_eq_of_lt (by omega : n < 2^(n.log2+2)), Nat.mod_eq_of_lt (by omega : n < 2^(n.log2+2)), Nat.div_eq_of_lt (by omega : n < 2^k), Nat.mod_eq_of_lt (by omega : n < 2^k)]
   rw [if_neg (by omega)]
   have a1 : ¬ 2^(n.log2+2) < 2 * n := by omega
   simp [a1]
 exact ⟨core false, core true⟩
theorem nearest_word {g : Nat} {neg : Bool} {mag : Nat} {place : Int} {V : Nat} (hp : -1074 - (g : Int) ≤ place) (hV : mag * 2^(place + 1074 + g).toNat = V) :
  double.nearest neg mag place = double.word neg (min (rung g V) INF) := by
 unfold Format.nearest
 by_cases h0 : mag = 0
 ·rw [if_pos h0]
  subst h0
  have : V = 0 := by rw [← hV]; omega
  rw [this, rung_zero]
  rfl
 ·rw [if_neg h0]
  simp only [d_least, d_binade, d_inf, d_frac]
  have hl := mag_log2 (d := (place + 1074 + g).toNat) h0
  rw [hV] at hl
  have hk : (max (place + (mag.log2 : Int) - ((52 : Nat) : Int)) (-1074) + 1074 + g).toNat = kx g V ∧ max (place + (mag.log2 : Int) - ((52 : Nat) : Int)) (-1074) = (kx g V : Int) - 1074 - g := by
   unfold kx; omega
  rw [hk.2]
  have e1 : ((kx g V : Int) - 1074 - g - -1074).toNat = kx g V - g := by omega
  rw [e1]
  have hc : Toward.even.cut neg (mag <<< (place - ((kx g V : Int) - 1074 - g)).toNat) ((kx g V : Int) - 1074 - g - place).toNat = rhe V (kx g V) := by
   have core : ∀ n k, Toward.even.cut neg n k = rhe n k := by
    intro n k; cases neg
    ·exact (cut_rhe n k).1
    ·exact (cut_rhe n k).2
   rw [core, Nat.shiftLeft_eq]
   by_cases hle : place ≤ (kx g V : Int) - 1074 - g
   ·have e2 : (place - ((kx g V : Int) - 1074 - g)).toNat = 0 := by omega
    rw [e2, Nat.pow_zero, Nat.mul_one]
    have e3 : kx g V = ((kx g V : Int) - 1074 - g - place).toNat + (place + 1074 + g).toNat := by omega
    rw [← hV] at *
    generalize hq : ((kx g (mag * 2 ^ (place + 1074 + ↑g).toNat) : Int) - 1074 - g - place).toNat = q at *
    rw [e3]
    exact (rhe_scale mag q _).symm
   ·have e2 : ((kx g V : Int) - 1074 - g - place).toNat = 0 := by omega
    rw [e2]
    have e3 : (place + 1074 + g).toNat = (place - ((kx g V : Int) - 1074 - g)).toNat + kx g V := by omega
    generalize (place - ((kx g V : Int) - 1074 - g)).toNat = q at *
    have hV2 : mag * 2^q * 2^(kx g V) = V := by rw [Nat.mul_assoc, ← Nat.pow_add, ← e3]; exact hV
    have d : 2^(kx g V) ∣ V := ⟨mag * 2^q, by rw [Nat.mul_comm]; exact hV2.symm⟩
    have x1 := rhe_exact d
    have x2 : rhe (mag * 2^q) 0 = mag * 2^q := by
     have := rhe_exact (n := mag * 2^q) (k := 0) (by simp)
     simpa using this
    rw [x2]
    have := pw (kx g V)
    exact Nat.eq_of_mul_eq_mul_right this (by omega)
  rw [hc]
  rfl
end Fl
namespace Fl
open Ieee
noncomputable def TE : Nat := Classical.choose (⟨2045, rfl⟩ : ∃ n : Nat, n = 2045)
noncomputable def top (g : Nat) : Nat := (2^53 - 1) * 2^(TE + g)
end Fl
end
