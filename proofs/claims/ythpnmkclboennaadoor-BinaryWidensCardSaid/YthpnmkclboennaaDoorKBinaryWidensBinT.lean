/- Contracts of take. Condition: words of the format. -/
import Derived.Test.YthpnmkclboennaaDoorKBinaryWidensBinA
import Derived.Test.YthpnmkclboennaaDoorKBinaryWidensWMore
import Derived.Test.YthpnmkclboennaaDoorKBinaryWidensWTab
import Derived.Laws.Rows
namespace Go.Proofs.YthpnmkclboennaaDoor.BinT
open Go.RowKit Go.Proofs.YthpnmkclboennaaDoorW.PrintWords Go.Proofs.YthpnmkclboennaaDoorW.PrintMore Go.Proofs.YthpnmkclboennaaDoorW.PrintLast Go.Proofs.YthpnmkclboennaaDoor.BinLaw Go.Proofs.YthpnmkclboennaaDoor.BinA
def takeT : List (List Nat × List Nat) := [([], []), ([], []), ([], []), ([2], [2]), ([1, 3], [1, 3]), ([4], [4]), ([], []), ([], []), ([7, 3], [7]), ([6, 8], [6, 8]), ([0, 8, 0], [0]), ([5, 10, 0, 1, 2, 3, 4, 5, 10], [5]), ([9, 11, 0, 1, 2, 3, 4, 5, 6, 7, 8, 9, 10, 11], [9]), ([12, 0, 1, 2, 3, 4, 5, 6, 7, 8, 9, 10, 11, 12], [])]
end Go.Proofs.YthpnmkclboennaaDoor.BinT
