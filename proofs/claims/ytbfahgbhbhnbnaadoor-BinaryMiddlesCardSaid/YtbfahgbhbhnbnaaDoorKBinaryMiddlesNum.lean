/- Lists of digits to the base 2^32 as natural numbers: value, the one list without noughts on top, sums of digits. Plain Lean; no program in sight. No condition. -/
import Derived.Test.YtbfahgbhbhnbnaaDoorKBinaryMiddlesWMore
import Derived.Laws.Bits64
import Derived.Laws.BitsLemmas
namespace Go.Proofs.YtbfahgbhbhnbnaaDoor.Num
open Go.RowKit Go.Proofs.YtbfahgbhbhnbnaaDoorW.PrintWords Go.Proofs.YtbfahgbhbhnbnaaDoorW.PrintMore
def B : Nat := 4294967296
theorem w64 {x : Int} (h0 : -9223372036854775808 ≤ x) (h1 : x < 9223372036854775808) : wrap64 x = x := by unfold wrap64; omega
theorem wu64 {x : Int} (h0 : 0 ≤ x) (h1 : x < 18446744073709551616) : IntKind.u64.wrap x = x := by rw [IntKind.wrap_u64]; omega
def vl : List Int → Nat
 | [] => 0
 | d :: t => d.toNat + B * vl t
def pv (l : List Int) (i : Nat) : Nat := vl (l.take i)
end Go.Proofs.YtbfahgbhbhnbnaaDoor.Num
