import Derived.Test.YtbfahgbhbhnbnaaDoorKBinaryMiddlesWApart
import Derived.Test.YtbfahgbhbhnbnaaDoorKBinaryMiddlesWWords
namespace Go.Proofs.YtbfahgbhbhnbnaaDoorW.PrintWords
open Go.RowKit
namespace Kd
theorem cell_heap {w w1 : World} (hb : ∀ k, k < w.heap.size → w1.heap[k]? = w.heap[k]?) {a : Addr} {v : Value} (h : w.cell? a = some v) : w1.cell? a = some v := by
 have := hb a.block (World.block_lt_of_cell? w a h)
 simpa [World.cell?, this] using h
end Kd
end Go.Proofs.YtbfahgbhbhnbnaaDoorW.PrintWords
