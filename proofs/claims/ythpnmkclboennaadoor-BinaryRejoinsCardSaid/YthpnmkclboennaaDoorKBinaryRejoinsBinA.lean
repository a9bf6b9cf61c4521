/- Contracts of a format's own functions: shapeOf, sign, hidden, inf, take, made, rank. Conditions: words below 2^64. -/
import Derived.Test.YthpnmkclboennaaDoorKBinaryRejoinsBinLaw
import Derived.Test.YthpnmkclboennaaDoorProg
import Derived.WalkLawsBesides
import Derived.Laws.Externs
import Derived.Deep.Draws
import Derived.Below
import Derived.Handy
import Derived.Deep.RegionHeld3
import Derived.Lib.Hide
namespace Go.Proofs.YthpnmkclboennaaDoor.BinA
open Go.RowKit Go.Proofs.YthpnmkclboennaaDoor.BinLaw
def shp0 : Value := .agg #[.int .i64 0, .int .i64 0, .int .i64 0, .int .u64 0]
theorem box (w : World) (o : Obj) : Below w.heap.size w (w.alloc o) := (Below.refl _ _).alloc (Nat.le_refl _) _
theorem on {W w w' : World} (h : Below W.heap.size W w) (k : Below w.heap.size w w') : Below W.heap.size W w' := h.trans (k.mono h.size)
theorem shapeOf_no (f : Int) (h : f ≠ 32) (h' : f ≠ 64) (w : World) : Calls Tryd.prog 48 #[.int .i64 f] w fun e w' => e = .returned shp0 ∧ Below w.heap.size w w' := by
  have e1 : ((f : Int) == 32) = false := by simpa using h
  have e2 : ((f : Int) == 64) = false := by simpa using h'
  go_enter Tryd.func48, Tryd.ntmps48
  go_wp2_with fail
  go_returns
  exact ⟨rfl, box _ _⟩
theorem shapeOf_S (w : World) : Calls Tryd.prog 48 #[.int .i64 32] w fun e w' => e = .returned (.agg #[.int .i64 32, .int .i64 24, .int .i64 (-149), .int .u64 2143289345]) ∧ Below w.heap.size w w' := by
  go_enter Tryd.func48, Tryd.ntmps48
  go_wp2_with fail
  go_returns
  exact ⟨rfl, box _ _⟩
end Go.Proofs.YthpnmkclboennaaDoor.BinA
