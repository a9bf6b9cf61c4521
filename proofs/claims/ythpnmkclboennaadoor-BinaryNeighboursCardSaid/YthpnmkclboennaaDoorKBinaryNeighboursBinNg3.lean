/- slices.Clone on one word; the program's twin and Neg on numbers of one word. Conditions: the number lies in memory in form. The program's twin and Neg on numbers of one word. Conditions: the number lies in memory in form. The program's Neg on nought; DocWord. No condition but words below 2^64. -/
import Derived.Test.YthpnmkclboennaaDoorKBinaryNeighboursPNegx0
import Derived.Test.YthpnmkclboennaaDoorKBinaryNeighboursPNegx1
import Derived.OwnWalk
import Derived.Laws.OwnMore
import Derived.Test.YthpnmkclboennaaDoorKBinaryNeighboursPLibx2
section
namespace Go.Proofs.YthpnmkclboennaaDoor.BinNg
open Go.RowKit Go.Proofs.YthpnmkclboennaaDoorW.PrintWords Go.Proofs.YthpnmkclboennaaDoorW.PrintMore Go.Proofs.YthpnmkclboennaaDoorW.PrintLast Go.Proofs.YthpnmkclboennaaDoor.Num Go.Proofs.YthpnmkclboennaaDoor.PLib Go.Proofs.YthpnmkclboennaaDoor.Ref Go.Proofs.YthpnmkclboennaaDoor.BinLaw Go.Proofs.YthpnmkclboennaaDoor.BinA Go.Proofs.YthpnmkclboennaaDoor.BinO2 Go.Proofs.YthpnmkclboennaaDoor.BinF Go.Proofs.YthpnmkclboennaaDoor.BinG Go.Proofs.YthpnmkclboennaaDoor.BinW Go.Proofs.YthpnmkclboennaaDoor.BinTab Go.Proofs.YthpnmkclboennaaDoor.BinM Go.Proofs.YthpnmkclboennaaDoor.BinM2 Go.Proofs.YthpnmkclboennaaDoor.BinV1 Go.Proofs.YthpnmkclboennaaDoor.BinS Go.Proofs.YthpnmkclboennaaDoor.BinS2
theorem u64_info : (Tryd.prog.info? 23).map (fun i => (i.zero, i.size, i.bytes)) = some (some (.int .u64 0), 1, 8) := by kernel_rfl
end Go.Proofs.YthpnmkclboennaaDoor.BinNg
end
section
namespace Go.Proofs.YthpnmkclboennaaDoor.BinNg2
open Go.RowKit Go.Proofs.YthpnmkclboennaaDoorW.PrintWords Go.Proofs.YthpnmkclboennaaDoorW.PrintMore Go.Proofs.YthpnmkclboennaaDoorW.PrintLast Go.Proofs.YthpnmkclboennaaDoor.Num Go.Proofs.YthpnmkclboennaaDoor.PLib Go.Proofs.YthpnmkclboennaaDoor.Ref Go.Proofs.YthpnmkclboennaaDoor.BinLaw Go.Proofs.YthpnmkclboennaaDoor.BinA Go.Proofs.YthpnmkclboennaaDoor.BinO2 Go.Proofs.YthpnmkclboennaaDoor.BinF Go.Proofs.YthpnmkclboennaaDoor.BinG Go.Proofs.YthpnmkclboennaaDoor.BinW Go.Proofs.YthpnmkclboennaaDoor.BinTab Go.Proofs.YthpnmkclboennaaDoor.BinM Go.Proofs.YthpnmkclboennaaDoor.BinM2 Go.Proofs.YthpnmkclboennaaDoor.BinV1 Go.Proofs.YthpnmkclboennaaDoor.BinS Go.Proofs.YthpnmkclboennaaDoor.BinS2 Go.Proofs.YthpnmkclboennaaDoor.BinNg
structure Two (W w : World) (g : Nat) (a b c d e f : Value) : Prop where mk :: (below : Below W.heap.size W w) (le : W.heap.size ≤ g) (blk0 : w.heap[g]? = some (.cells #[a, b, c] 29 (0, 0))) (blk1 : w.heap[g + 1]? = some (.cells #[d, e, f] 29 (0, 0)))
theorem Two.next {W w w' : World} {g : Nat} {a b c d e f : Value} (h : Two W w g a b c d e f) (k : Below w.heap.size w w') : Two W w' g a b c d e f := ⟨on h.below k, h.le, blk_below h.blk0 k, blk_below h.blk1 k⟩
theorem Two.new (w : World) (a b c : Value) : Two w ((w.alloc (Obj.cells #[a, b, c] 29)).alloc (Obj.cells #[.bool false, .slice none 0 0, .int .i64 0] 29)) w.heap.size a b c (.bool false) (.slice none 0 0) (.int .i64 0) := by
  have hg : (w.alloc (Obj.cells #[a, b, c] 29)).heap.size = w.heap.size + 1 := by simp
  have h1 := blk_new (w.alloc (Obj.cells #[a, b, c] 29)) (Obj.cells #[.bool false, .slice none 0 0, .int .i64 0] 29)
  rw [hg] at h1
  exact ⟨on (box _ _) (box _ _), Nat.le_refl _, blk_below (blk_new _ _) (box _ _), h1⟩
theorem Two.z0 {W w : World} {g : Nat} {a b c d e f : Value} (h : Two W w g a b c d e f) : w.cell? ⟨g, 0, none⟩ = some a := (blk_cell h.blk0 0).trans rfl
theorem Two.z1 {W w : World} {g : Nat} {a b c d e f : Value} (h : Two W w g a b c d e f) : w.cell? ⟨g, 1, none⟩ = some b := (blk_cell h.blk0 1).trans rfl
theorem Two.z2 {W w : World} {g : Nat} {a b c d e f : Value} (h : Two W w g a b c d e f) : w.cell? ⟨g, 2, none⟩ = some c := (blk_cell h.blk0 2).trans rfl
end Go.Proofs.YthpnmkclboennaaDoor.BinNg2
end
section
namespace Go.Proofs.YthpnmkclboennaaDoor.BinNg3
open Go.RowKit Go.Proofs.YthpnmkclboennaaDoorW.PrintWords Go.Proofs.YthpnmkclboennaaDoorW.PrintMore Go.Proofs.YthpnmkclboennaaDoorW.PrintLast Go.Proofs.YthpnmkclboennaaDoor.Num Go.Proofs.YthpnmkclboennaaDoor.Ref Go.Proofs.YthpnmkclboennaaDoor.BinLaw Go.Proofs.YthpnmkclboennaaDoor.BinA Go.Proofs.YthpnmkclboennaaDoor.BinO2 Go.Proofs.YthpnmkclboennaaDoor.BinF Go.Proofs.YthpnmkclboennaaDoor.BinG Go.Proofs.YthpnmkclboennaaDoor.BinW Go.Proofs.YthpnmkclboennaaDoor.BinTab Go.Proofs.YthpnmkclboennaaDoor.BinM Go.Proofs.YthpnmkclboennaaDoor.BinM2 Go.Proofs.YthpnmkclboennaaDoor.BinV1 Go.Proofs.YthpnmkclboennaaDoor.BinS Go.Proofs.YthpnmkclboennaaDoor.BinS2 Go.Proofs.YthpnmkclboennaaDoor.BinNg Go.Proofs.YthpnmkclboennaaDoor.BinNg2
structure DyP (w : World) (A : Option Addr) (c : Nat) (neg : Bool) (l : List Int) (x : Int) : Prop where mk :: (nil : l = [] → A = none ∧ c = 0 ∧ neg = false ∧ x = 0) (one : l ≠ [] → ∃ G n : Nat, A = some ⟨G, 0, none⟩ ∧ c = 1 ∧ l = [(n : Int)] ∧ At1 w G 0 n ∧ n % 2 = 1 ∧ n < 18446744073709551616) (lo : -1000000 ≤ x) (hi : x ≤ 1000000)
end Go.Proofs.YthpnmkclboennaaDoor.BinNg3
end
