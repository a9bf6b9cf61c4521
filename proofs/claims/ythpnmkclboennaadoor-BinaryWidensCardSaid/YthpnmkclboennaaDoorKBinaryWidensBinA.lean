/- Contracts of a format's own functions: shapeOf, sign, hidden, inf, take, made, rank. Conditions: words below 2^64. -/
import Derived.Test.YthpnmkclboennaaDoorKBinaryWidensBinLaw
import Derived.Test.YthpnmkclboennaaDoorProg
import Derived.WalkLawsBesides
import Derived.Laws.Externs
import Derived.Deep.Draws
import Derived.Below
import Derived.Handy
import Derived.Deep.RegionHeld3
import Derived.Lib.Hide
namespace Go.Proofs.YthpnmkclboennaaDoor.BinA
open Go.RowKit Go.Proofs.YthpnmkclboennaaDoor.BinLaw
theorem box (w : World) (o : Obj) : Below w.heap.size w (w.alloc o) := (Below.refl _ _).alloc (Nat.le_refl _) _
theorem on {W w w' : World} (h : Below W.heap.size W w) (k : Below w.heap.size w w') : Below W.heap.size W w' := h.trans (k.mono h.size)
theorem shapeOf_S (w : World) : Calls Tryd.prog 48 #[.int .i64 32] w fun e w' => e = .returned (.agg #[.int .i64 32, .int .i64 24, .int .i64 (-149), .int .u64 2143289345]) ∧ Below w.heap.size w w' := by
  go_enter Tryd.func48, Tryd.ntmps48
  go_wp2_with fail
  go_returns
  exact ⟨rfl, box _ _⟩
end Go.Proofs.YthpnmkclboennaaDoor.BinA
