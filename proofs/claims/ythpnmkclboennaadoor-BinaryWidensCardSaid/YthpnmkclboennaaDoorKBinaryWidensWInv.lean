import Derived.Test.YthpnmkclboennaaDoorKBinaryWidensWTab
namespace Go.Proofs.YthpnmkclboennaaDoorW.PrintLast
def up (b : Nat → Bool) (i : Nat) : Nat → Bool := fun j => if j = i then true else b j
end Go.Proofs.YthpnmkclboennaaDoorW.PrintLast
