/- The formats' numbers, ranks and neighbours in plain Lean; bit words of signs. No condition. -/
import Derived.Laws.BitsAllLaws
import Derived.WalkKit
namespace Go.Proofs.YtapikmfckpgjoaaDoor.BinLaw
open Go.RowKit
structure Fmt where mk :: (sg : Nat) (inf : Nat) (man : Nat) (low : Int) (wd : Nat) (qt : Nat)
def fS : Fmt := ⟨2147483648, 2139095040, 24, -149, 32, 2143289345⟩
def fD : Fmt := ⟨9223372036854775808, 9218868437227405312, 53, -1074, 64, 9221120237041090561⟩
theorem drop_bit (k b m : Nat) (hm : m % 2^k = 2^k - 1) (hb : b / 2^k &&& m / 2^k = 0) : b &&& m = b % 2^k := by
 have h1 : (b &&& m) % 2^k = b % 2^k := by
  rw [Nat.and_mod_two_pow, hm, Nat.and_two_pow_sub_one_eq_mod, Nat.mod_mod]
 have h2 : (b &&& m) / 2^k = 0 := by rw [Nat.and_div_two_pow]; exact hb
 have h3 := Nat.div_add_mod (b &&& m) (2^k)
 rw [h1, h2, Nat.mul_zero, Nat.zero_add] at h3
 exact h3.symm
theorem one_of {k b : Nat} (hb : b < 2 * 2^k) : b / 2^k = 0 ∨ b / 2^k = 1 := by
 have : b / 2^k < 2 := Nat.div_lt_of_lt_mul (by rw [Nat.mul_comm]; exact hb)
 generalize b / 2^k = q at this
 omega
def IsF (F : Fmt) : Prop := F = fS ∨ F = fD
theorem andNot_sg {F : Fmt} (hF : IsF F) {b : Nat} (hb : b < 2 * F.sg) : bits .andNot .u64 (b : Int) ((F.sg : Nat) : Int) = ((b % F.sg : Nat) : Int) := by
 rcases hF with rfl | rfl
 ·have hb' : b < 4294967296 := hb
  have h := u64_andNot_nat b 2147483648 (by omega) (by decide)
  rw [drop_bit 31 b _ (by decide) (by rcases one_of (k := 31) (b := b) (by omega) with h | h <;> rw [h] <;> decide)] at h
  exact h
 ·have hb' : b < 18446744073709551616 := hb
  have h := u64_andNot_nat b 9223372036854775808 (by omega) (by decide)
  rw [drop_bit 63 b _ (by decide) (by rcases one_of (k := 63) (b := b) (by omega) with h | h <;> rw [h] <;> decide)] at h
  exact h
theorem and_bit (k b : Nat) (hb : b < 2 * 2^k) : b &&& 2^k = if 2^k ≤ b then 2^k else 0 := by
 rw [nat_bit]
 by_cases h : 2^k ≤ b
 ·rw [if_pos h]
  have : b / 2^k = 1 := by
   have := Nat.div_pos h (Nat.two_pow_pos k)
   rcases one_of hb with h | h <;> omega
  rw [this, Nat.one_mod, Nat.one_mul]
 ·rw [if_neg h, Nat.div_eq_of_lt (by omega), Nat.zero_mod, Nat.zero_mul]
theorem and_sg {F : Fmt} (hF : IsF F) {b : Nat} (hb : b < 2 * F.sg) : (bits .and .u64 (b : Int) ((F.sg : Nat) : Int) != 0) = decide (F.sg ≤ b) := by
 rcases hF with rfl | rfl
 ·have hb' : b < 4294967296 := hb
  have e : fS.sg = 2147483648 := rfl
  have a := and_bit 31 b (by omega)
  rw [show (2 : Nat)^31 = 2147483648 from by decide] at a
  rw [e, u64_and_nat b 2147483648 (by omega) (by decide), a]
  by_cases c : 2147483648 ≤ b
  ·rw [if_pos c, decide_eq_true c]; rfl
  ·rw [if_neg c, decide_eq_false c]; rfl
 ·have hb' : b < 18446744073709551616 := hb
  have e : fD.sg = 9223372036854775808 := rfl
  have a := and_bit 63 b (by omega)
  rw [show (2 : Nat)^63 = 9223372036854775808 from by decide] at a
  rw [e, u64_and_nat b 9223372036854775808 (by omega) (by decide), a]
  by_cases c : 9223372036854775808 ≤ b
  ·rw [if_pos c, decide_eq_true c]; rfl
  ·rw [if_neg c, decide_eq_false c]; rfl
end Go.Proofs.YtapikmfckpgjoaaDoor.BinLaw
