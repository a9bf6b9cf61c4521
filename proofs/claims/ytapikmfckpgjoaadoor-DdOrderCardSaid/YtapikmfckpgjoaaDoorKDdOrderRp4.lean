/- The order of dyadics as the order of their values; Decide; calls on given numbers. Plain Lean over the printed functions. Conditions: numbers in form. -/
import Derived.Test.YtapikmfckpgjoaaDoorKDdOrderRp3
namespace Go.Proofs.YtapikmfckpgjoaaDoor.Rp4
open Go.RowKit Go.Proofs.YtapikmfckpgjoaaDoorW.PrintWords Go.Proofs.YtapikmfckpgjoaaDoorW.PrintMore Go.Proofs.YtapikmfckpgjoaaDoor.Num Go.Proofs.YtapikmfckpgjoaaDoor.PLib Go.Proofs.YtapikmfckpgjoaaDoor.Ref Go.Proofs.YtapikmfckpgjoaaDoor.GTh Go.Proofs.YtapikmfckpgjoaaDoor.Given Go.Proofs.YtapikmfckpgjoaaDoor.Rp1 Go.Proofs.YtapikmfckpgjoaaDoor.Rp2 Go.Proofs.YtapikmfckpgjoaaDoor.Rp3 Go.Proofs.YtapikmfckpgjoaaDoor.BinLaw Go.Proofs.YtapikmfckpgjoaaDoor.Fm8 Go.Proofs.YtapikmfckpgjoaaDoor.Rnd
def vs (neg : Bool) (m : Nat) (x E : Int) : Int := if neg then -((m * 2^(x - E).toNat : Nat) : Int) else ((m * 2^(x - E).toNat : Nat) : Int)
theorem szc_vs {m m' : Nat} {x x' E : Int} (h : E ≤ x) (h' : E ≤ x') : szc m x m' x' = cmI (m * 2^(x - E).toNat) (m' * 2^(x' - E).toNat) := by
 unfold szc
 obtain ⟨d, hd⟩ : ∃ d : Nat, d = (min x x' - E).toNat := ⟨_, rfl⟩
 have e1 : (x - E).toNat = (x - min x x').toNat + d := by omega
 have e2 : (x' - E).toNat = (x' - min x x').toNat + d := by omega
 rw [e1, e2, Nat.pow_add, Nat.pow_add, ← Nat.mul_assoc, ← Nat.mul_assoc]
 generalize m * 2^(x - min x x').toNat = a
 generalize m' * 2^(x' - min x x').toNat = b
 have p := Nat.two_pow_pos d
 have i1 : a * 2^d < b * 2^d ↔ a < b := ⟨fun h => Nat.lt_of_mul_lt_mul_right h, fun h => Nat.mul_lt_mul_of_pos_right h p⟩
 have i2 : b * 2^d < a * 2^d ↔ b < a := ⟨fun h => Nat.lt_of_mul_lt_mul_right h, fun h => Nat.mul_lt_mul_of_pos_right h p⟩
 unfold cmI
 simp only [i1, i2]
def cmZ (a b : Int) : Int := if a < b then -1 else if b < a then 1 else 0
theorem dcm_vs {neg neg' : Bool} {m m' : Nat} {x x' E : Int} (h : E ≤ x) (h' : E ≤ x') : dcm neg m x neg' m' x' = cmZ (vs neg m x E) (vs neg' m' x' E) := by
 unfold dcm
 rw [szc_vs h h']
 unfold vs sgn
 have p1 := Nat.two_pow_pos (x - E).toNat
 have p2 := Nat.two_pow_pos (x' - E).toNat
 have z1 : m * 2^(x - E).toNat = 0 ↔ m = 0 := by
  constructor
  ·intro e
   rcases Nat.mul_eq_zero.1 e with e | e
   ·exact e
   ·omega
  ·intro e; rw [e, Nat.zero_mul]
 have z2 : m' * 2^(x' - E).toNat = 0 ↔ m' = 0 := by
  constructor
  ·intro e
   rcases Nat.mul_eq_zero.1 e with e | e
   ·exact e
   ·omega
  ·intro e; rw [e, Nat.zero_mul]
 generalize m * 2^(x - E).toNat = a at *
 generalize m' * 2^(x' - E).toNat = b at *
 unfold cmZ cmI
 by_cases c1 : m = 0
 ·have a0 := z1.2 c1
  subst a0
  rw [if_pos c1]
  by_cases c2 : m' = 0
  ·have b0 := z2.2 c2
   subst b0
   rw [if_pos c2]
   cases neg <;> cases neg' <;> simp
  ·have b0 : b ≠ 0 := fun e => c2 (z2.1 e)
   rw [if_neg c2]
   cases neg <;> cases neg' <;> simp <;> omega
 ·have a0 : a ≠ 0 := fun e => c1 (z1.1 e)
  rw [if_neg c1]
  by_cases c2 : m' = 0
  ·have b0 := z2.2 c2
   subst b0
   rw [if_pos c2]
   cases neg <;> cases neg' <;> simp <;> omega
  ·have b0 : b ≠ 0 := fun e => c2 (z2.1 e)
   rw [if_neg c2]
   rcases Nat.lt_trichotomy a b with c | c | c
   ·cases neg <;> cases neg' <;> simp [c, Nat.not_lt_of_lt c] <;> omega
   ·subst c; cases neg <;> cases neg' <;> simp <;> omega
   ·cases neg <;> cases neg' <;> simp [c, Nat.not_lt_of_lt c] <;> omega
theorem cmZ_3 (a b : Int) : cmZ a b = -1 ∨ cmZ a b = 0 ∨ cmZ a b = 1 := by unfold cmZ; split <;> (try split) <;> simp
def pv (F : Fmt) (g : Nat) (V : Int) : Nat := if V = 0 then 0 else pat F (decide (V < 0)) (rsz F g V.natAbs)
end Go.Proofs.YtapikmfckpgjoaaDoor.Rp4
