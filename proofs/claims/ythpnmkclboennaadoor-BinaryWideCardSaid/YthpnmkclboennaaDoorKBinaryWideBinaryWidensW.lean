/- The walk of the law BinaryWidens: it returns true, and the world has at most new blocks. Condition: the script reads as calls; math/bits' table is laid. -/
import Derived.Test.YthpnmkclboennaaDoorKBinaryWideBinWd
import Derived.Test.YthpnmkclboennaaDoorKBinaryWideBinRow
import Derived.Test.YthpnmkclboennaaDoorKBinaryWidePLibx2
import Derived.Test.YthpnmkclboennaaDoorKBinaryWidePLibx9
import Derived.Test.YthpnmkclboennaaDoorKBinaryWidePLibx3
namespace Go.Proofs.YthpnmkclboennaaDoor.BinaryWidensW
open Go.RowKit Go.Proofs.YthpnmkclboennaaDoorW.PrintWords Go.Proofs.YthpnmkclboennaaDoorW.PrintMore Go.Proofs.YthpnmkclboennaaDoorW.PrintLast Go.Proofs.YthpnmkclboennaaDoor.Num Go.Proofs.YthpnmkclboennaaDoor.Ref Go.Proofs.YthpnmkclboennaaDoor.BinLaw Go.Proofs.YthpnmkclboennaaDoor.BinA Go.Proofs.YthpnmkclboennaaDoor.BinO2 Go.Proofs.YthpnmkclboennaaDoor.BinF Go.Proofs.YthpnmkclboennaaDoor.BinG Go.Proofs.YthpnmkclboennaaDoor.BinW Go.Proofs.YthpnmkclboennaaDoor.BinTab Go.Proofs.YthpnmkclboennaaDoor.BinM Go.Proofs.YthpnmkclboennaaDoor.BinJ4 Go.Proofs.YthpnmkclboennaaDoor.BinJ5 Go.Proofs.YthpnmkclboennaaDoor.BinWd Go.Proofs.YthpnmkclboennaaDoor.BinAll
theorem Widen_any (b : Nat) (hb : b < 18446744073709551616) (w : World) (hT : Tab w) : Calls Tryd.prog 19 #[.int .u64 b] w fun e w' => e = .returned (.tuple #[.int .u64 (wdF b).1, .int .i64 (wdF b).2]) ∧ Below w.heap.size w w' := by
  unfold wdF
  by_cases c : 4294967296 ≤ b
  · rw [if_pos c]; exact widen_bad b hb c w
  rw [if_neg c]
  by_cases c1 : fS.inf < b % fS.sg
  · rw [if_pos c1]; exact widen_nan b (by omega) c1 w
  rw [if_neg c1]
  by_cases c2 : b % fS.sg = fS.inf
  · rw [if_pos c2]; exact widen_inf b (by omega) c2 w
  · rw [if_neg c2]; exact widen_fin b (by omega) (by omega) w hT
end Go.Proofs.YthpnmkclboennaaDoor.BinaryWidensW
