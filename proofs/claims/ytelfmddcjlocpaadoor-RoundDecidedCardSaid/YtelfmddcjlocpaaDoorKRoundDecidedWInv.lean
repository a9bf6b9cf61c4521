import Derived.Test.YtelfmddcjlocpaaDoorKRoundDecidedWTab
namespace Go.Proofs.YtelfmddcjlocpaaDoorW.PrintLast
def up (b : Nat → Bool) (i : Nat) : Nat → Bool := fun j => if j = i then true else b j
end Go.Proofs.YtelfmddcjlocpaaDoorW.PrintLast
