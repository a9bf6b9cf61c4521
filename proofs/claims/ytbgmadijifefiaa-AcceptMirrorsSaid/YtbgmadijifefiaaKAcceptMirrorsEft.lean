/- Contracts of TwoSum, FastTwoSum, Split and TwoProd, and of the statements' own calls of them, for any words: each step is a float operation of the model. No condition. -/
import Derived.Test.YtbgmadijifefiaaKAcceptMirrorsFlWalk
import Derived.Test.YtbgmadijifefiaaProg
namespace Go.Proofs.Ytbgmadijifefiaa.Eft
open Go.RowKit Go.Proofs.Ytbgmadijifefiaa.FW
theorem call_from (n : Int) (w : World) : (callFunc 45 #[.int .u64 n]).run Try.prog w = .ok (.value (.float .f64 n.toNat)) w := by
  rw [run_callFunc_extern (P := Try.prog) (f := 45) (fn := Try.f45) (e := Extern.MathFloatBits.float64frombits) (by kernel_rfl) (by kernel_rfl) (by kernel_rfl) (by kernel_rfl) (by kernel_rfl)]
  rfl
theorem call_bits (b : Nat) (w : World) : (callFunc 68 #[.float .f64 b]).run Try.prog w = .ok (.value (.int .u64 b)) w := by
  rw [run_callFunc_extern (P := Try.prog) (f := 68) (fn := Try.f68) (e := Extern.MathFloatBits.float64bits) (by kernel_rfl) (by kernel_rfl) (by kernel_rfl) (by kernel_rfl) (by kernel_rfl)]
  rfl
end Go.Proofs.Ytbgmadijifefiaa.Eft
