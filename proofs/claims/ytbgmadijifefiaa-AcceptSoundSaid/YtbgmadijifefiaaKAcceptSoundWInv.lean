import Derived.Test.YtbgmadijifefiaaKAcceptSoundWTab
namespace Go.Proofs.YtbgmadijifefiaaW.PrintLast
def up (b : Nat → Bool) (i : Nat) : Nat → Bool := fun j => if j = i then true else b j
end Go.Proofs.YtbgmadijifefiaaW.PrintLast
