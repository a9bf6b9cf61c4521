/- The formats' numbers, ranks and neighbours in plain Lean; bit words of signs. No condition. -/
import Derived.Laws.BitsAllLaws
import Derived.WalkKit
namespace Go.Proofs.YtelfmddcjlocpaaDoor.BinLaw
open Go.RowKit
structure Fmt where mk :: (sg : Nat) (inf : Nat) (man : Nat) (low : Int) (wd : Nat) (qt : Nat)
def fS : Fmt := ⟨2147483648, 2139095040, 24, -149, 32, 2143289345⟩
def fD : Fmt := ⟨9223372036854775808, 9218868437227405312, 53, -1074, 64, 9221120237041090561⟩
theorem one_of {k b : Nat} (hb : b < 2 * 2^k) : b / 2^k = 0 ∨ b / 2^k = 1 := by
 have : b / 2^k < 2 := Nat.div_lt_of_lt_mul (by rw [Nat.mul_comm]; exact hb)
 generalize b / 2^k = q at this
 omega
def IsF (F : Fmt) : Prop := F = fS ∨ F = fD
theorem or_sg {F : Fmt} (hF : IsF F) {s : Nat} (hs : s < F.sg) : bits .or .u64 (s : Int) ((F.sg : Nat) : Int) = ((F.sg + s : Nat) : Int) := by
 rcases hF with rfl | rfl
 ·have hs' : s < 2147483648 := hs
  have e : fS.sg = 2147483648 := rfl
  have a := nat_join 31 2147483648 s (by decide) (by omega)
  rw [e, u64_or_nat s 2147483648 (by omega) (by decide), Nat.or_comm, a]
 ·have hs' : s < 9223372036854775808 := hs
  have e : fD.sg = 9223372036854775808 := rfl
  have a := nat_join 63 9223372036854775808 s (by decide) (by omega)
  rw [e, u64_or_nat s 9223372036854775808 (by omega) (by decide), Nat.or_comm, a]
end Go.Proofs.YtelfmddcjlocpaaDoor.BinLaw
