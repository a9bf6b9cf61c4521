import Derived.Test.YtbfahgbhbhnbnaaDoorKBinaryMiddlesWTab
namespace Go.Proofs.YtbfahgbhbhnbnaaDoorW.PrintLast
def up (b : Nat → Bool) (i : Nat) : Nat → Bool := fun j => if j = i then true else b j
end Go.Proofs.YtbfahgbhbhnbnaaDoorW.PrintLast
