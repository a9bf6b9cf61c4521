/- Contracts of take and rank where they refuse. Condition: words below 2^64. -/
import Derived.Test.YthpnmkclboennaaDoorKBinaryNeighboursBinR
namespace Go.Proofs.YthpnmkclboennaaDoor.BinN
open Go.RowKit Go.Proofs.YthpnmkclboennaaDoorW.PrintWords Go.Proofs.YthpnmkclboennaaDoorW.PrintMore Go.Proofs.YthpnmkclboennaaDoorW.PrintLast Go.Proofs.YthpnmkclboennaaDoor.BinLaw Go.Proofs.YthpnmkclboennaaDoor.BinA Go.Proofs.YthpnmkclboennaaDoor.BinT Go.Proofs.YthpnmkclboennaaDoor.BinR
set_option maxRecDepth 100000 in
set_option maxHeartbeats 2000000 in
theorem take_bad (b : Nat) (h2 : 4294967296 ≤ b) (w : World) : Calls Tryd.prog 47 #[.int .i64 32, .int .u64 b] w fun e w' => e = .returned (.tuple #[.agg #[.int .i64 32, .int .i64 24, .int .i64 (-149), .int .u64 2143289345], .bool false, .int .u64 0, .int .i64 2]) ∧ Below w.heap.size w w' := by
  have hu63 := Tryd.underlying63
  have q : (((b : Int) / 4294967296) != 0) = true := by
    have : (b : Int) / 4294967296 ≠ 0 := by omega
    simpa using this
  clear h2
  go_enter Tryd.func47, Tryd.ntmps47
  go_wp2_with fail
  refine (shapeOf_S _).mono ?_
  rintro e w1 ⟨rfl, h1⟩
  have HR : Hid (Below w.heap.size w w1 ∧ w.heap.size < w1.heap.size ∧ w1.heap[w.heap.size]? = some (.cells #[.int .i64 0, .int .i64 0, .int .i64 0, .int .u64 0] 63 (0, 0))) :=
    Lib.hid ⟨on (box _ _) h1, Nat.lt_of_lt_of_le (by simp) h1.size, by rw [h1.block _ (by simp)]; exact heap_alloc_new _ _⟩
  clear h1
  have kb := blk_new w1 (Obj.cells #[.int .i64 32, .int .i64 24, .int .i64 (-149), .int .u64 2143289345] 63)
  have kr : (w1.alloc (Obj.cells #[.int .i64 32, .int .i64 24, .int .i64 (-149), .int .u64 2143289345] 63)).heap[w.heap.size]? = some (.cells #[.int .i64 0, .int .i64 0, .int .i64 0, .int .u64 0] 63 (0, 0)) := blk_below HR.out.2.2 (box _ _)
  have kz0 : (w1.alloc (Obj.cells #[.int .i64 32, .int .i64 24, .int .i64 (-149), .int .u64 2143289345] 63)).cell? ⟨w1.heap.size, 0, none⟩ = some (.int .i64 32) := (blk_cell kb 0).trans rfl
  have kz1 : (w1.alloc (Obj.cells #[.int .i64 32, .int .i64 24, .int .i64 (-149), .int .u64 2143289345] 63)).cell? ⟨w1.heap.size, 1, none⟩ = some (.int .i64 24) := (blk_cell kb 1).trans rfl
  have kz2 : (w1.alloc (Obj.cells #[.int .i64 32, .int .i64 24, .int .i64 (-149), .int .u64 2143289345] 63)).cell? ⟨w1.heap.size, 2, none⟩ = some (.int .i64 (-149)) := (blk_cell kb 2).trans rfl
  have kz3 : (w1.alloc (Obj.cells #[.int .i64 32, .int .i64 24, .int .i64 (-149), .int .u64 2143289345] 63)).cell? ⟨w1.heap.size, 3, none⟩ = some (.int .u64 2143289345) := (blk_cell kb 3).trans rfl
  have ky0 := (blk_cell kr 0).trans rfl
  have ky1 := (blk_cell kr 1).trans rfl
  have ky2 := (blk_cell kr 2).trans rfl
  have ky3 := (blk_cell kr 3).trans rfl
  have fy0 := blk_frozen kr 0
  have fy1 := blk_frozen kr 1
  have fy2 := blk_frozen kr 2
  have fy3 := blk_frozen kr 3
  have HK := Lib.hid (blk_set (blk_set (blk_set (blk_set kr 0 (.int .i64 32)) 1 (.int .i64 24)) 2 (.int .i64 (-149))) 3 (.int .u64 2143289345))
  have HB := Lib.hid (on HR.out.1 (box w1 (Obj.cells #[.int .i64 32, .int .i64 24, .int .i64 (-149), .int .u64 2143289345] 63)))
  clear kb kr
  go_wp2_with fail
  have k0 : (((((w1.alloc (Obj.cells #[.int .i64 32, .int .i64 24, .int .i64 (-149), .int .u64 2143289345] 63)).setCell ⟨w.heap.size, 0, none⟩ (.int .i64 32)).setCell ⟨w.heap.size, 1, none⟩ (.int .i64 24)).setCell ⟨w.heap.size, 2, none⟩ (.int .i64 (-149))).setCell ⟨w.heap.size, 3, none⟩ (.int .u64 2143289345)).cell? ⟨w.heap.size, 0, none⟩ = some (.int .i64 32) := (blk_cell HK.out 0).trans rfl
  have k1 : (((((w1.alloc (Obj.cells #[.int .i64 32, .int .i64 24, .int .i64 (-149), .int .u64 2143289345] 63)).setCell ⟨w.heap.size, 0, none⟩ (.int .i64 32)).setCell ⟨w.heap.size, 1, none⟩ (.int .i64 24)).setCell ⟨w.heap.size, 2, none⟩ (.int .i64 (-149))).setCell ⟨w.heap.size, 3, none⟩ (.int .u64 2143289345)).cell? ⟨w.heap.size, 1, none⟩ = some (.int .i64 24) := (blk_cell HK.out 1).trans rfl
  have k2 : (((((w1.alloc (Obj.cells #[.int .i64 32, .int .i64 24, .int .i64 (-149), .int .u64 2143289345] 63)).setCell ⟨w.heap.size, 0, none⟩ (.int .i64 32)).setCell ⟨w.heap.size, 1, none⟩ (.int .i64 24)).setCell ⟨w.heap.size, 2, none⟩ (.int .i64 (-149))).setCell ⟨w.heap.size, 3, none⟩ (.int .u64 2143289345)).cell? ⟨w.heap.size, 2, none⟩ = some (.int .i64 (-149)) := (blk_cell HK.out 2).trans rfl
  have k3 : (((((w1.alloc (Obj.cells #[.int .i64 32, .int .i64 24, .int .i64 (-149), .int .u64 2143289345] 63)).setCell ⟨w.heap.size, 0, none⟩ (.int .i64 32)).setCell ⟨w.heap.size, 1, none⟩ (.int .i64 24)).setCell ⟨w.heap.size, 2, none⟩ (.int .i64 (-149))).setCell ⟨w.heap.size, 3, none⟩ (.int .u64 2143289345)).cell? ⟨w.heap.size, 3, none⟩ = some (.int .u64 2143289345) := (blk_cell HK.out 3).trans rfl
  refine bodyPost_ret (v := .tuple #[.agg #[.int .i64 32, .int .i64 24, .int .i64 (-149), .int .u64 2143289345], .bool false, .int .u64 0, .int .i64 2]) (by simp [results, Tryd.results47, go_sem, k0, k1, k2, k3]; try rfl) rfl ?_
  exact ⟨rfl, (((HB.out.setCell (Nat.le_refl _) _).setCell (Nat.le_refl _) _).setCell (Nat.le_refl _) _).setCell (Nat.le_refl _) _⟩
set_option maxRecDepth 100000 in
set_option maxHeartbeats 2000000 in
theorem take_no (f : Int) (b : Nat) (g1 : f ≠ 32) (g2 : f ≠ 64) (w : World) : Calls Tryd.prog 47 #[.int .i64 f, .int .u64 b] w fun e w' => e = .returned (.tuple #[.agg #[.int .i64 0, .int .i64 0, .int .i64 0, .int .u64 0], .bool false, .int .u64 0, .int .i64 1]) ∧ Below w.heap.size w w' := by
  have hu63 := Tryd.underlying63
  go_enter Tryd.func47, Tryd.ntmps47
  go_wp2_with fail
  refine (shapeOf_no f g1 g2 _).mono ?_
  unfold shp0
  rintro e w1 ⟨rfl, h1⟩
  have HR : Hid (Below w.heap.size w w1 ∧ w.heap.size < w1.heap.size ∧ w1.heap[w.heap.size]? = some (.cells #[.int .i64 0, .int .i64 0, .int .i64 0, .int .u64 0] 63 (0, 0))) :=
    Lib.hid ⟨on (box _ _) h1, Nat.lt_of_lt_of_le (by simp) h1.size, by rw [h1.block _ (by simp)]; exact heap_alloc_new _ _⟩
  clear h1
  have kb := blk_new w1 (Obj.cells #[.int .i64 0, .int .i64 0, .int .i64 0, .int .u64 0] 63)
  have kr : (w1.alloc (Obj.cells #[.int .i64 0, .int .i64 0, .int .i64 0, .int .u64 0] 63)).heap[w.heap.size]? = some (.cells #[.int .i64 0, .int .i64 0, .int .i64 0, .int .u64 0] 63 (0, 0)) := blk_below HR.out.2.2 (box _ _)
  have kz0 : (w1.alloc (Obj.cells #[.int .i64 0, .int .i64 0, .int .i64 0, .int .u64 0] 63)).cell? ⟨w1.heap.size, 0, none⟩ = some (.int .i64 0) := (blk_cell kb 0).trans rfl
  have kz1 : (w1.alloc (Obj.cells #[.int .i64 0, .int .i64 0, .int .i64 0, .int .u64 0] 63)).cell? ⟨w1.heap.size, 1, none⟩ = some (.int .i64 0) := (blk_cell kb 1).trans rfl
  have kz2 : (w1.alloc (Obj.cells #[.int .i64 0, .int .i64 0, .int .i64 0, .int .u64 0] 63)).cell? ⟨w1.heap.size, 2, none⟩ = some (.int .i64 0) := (blk_cell kb 2).trans rfl
  have kz3 : (w1.alloc (Obj.cells #[.int .i64 0, .int .i64 0, .int .i64 0, .int .u64 0] 63)).cell? ⟨w1.heap.size, 3, none⟩ = some (.int .u64 0) := (blk_cell kb 3).trans rfl
  have ky0 := (blk_cell kr 0).trans rfl
  have ky1 := (blk_cell kr 1).trans rfl
  have ky2 := (blk_cell kr 2).trans rfl
  have ky3 := (blk_cell kr 3).trans rfl
  have fy0 := blk_frozen kr 0
  have fy1 := blk_frozen kr 1
  have fy2 := blk_frozen kr 2
  have fy3 := blk_frozen kr 3
  have HK := Lib.hid (blk_set (blk_set (blk_set (blk_set kr 0 (.int .i64 0)) 1 (.int .i64 0)) 2 (.int .i64 0)) 3 (.int .u64 0))
  have HB := Lib.hid (on HR.out.1 (box w1 (Obj.cells #[.int .i64 0, .int .i64 0, .int .i64 0, .int .u64 0] 63)))
  clear kb kr
  go_wp2_with fail
  have k0 : (((((w1.alloc (Obj.cells #[.int .i64 0, .int .i64 0, .int .i64 0, .int .u64 0] 63)).setCell ⟨w.heap.size, 0, none⟩ (.int .i64 0)).setCell ⟨w.heap.size, 1, none⟩ (.int .i64 0)).setCell ⟨w.heap.size, 2, none⟩ (.int .i64 0)).setCell ⟨w.heap.size, 3, none⟩ (.int .u64 0)).cell? ⟨w.heap.size, 0, none⟩ = some (.int .i64 0) := (blk_cell HK.out 0).trans rfl
  have k1 : (((((w1.alloc (Obj.cells #[.int .i64 0, .int .i64 0, .int .i64 0, .int .u64 0] 63)).setCell ⟨w.heap.size, 0, none⟩ (.int .i64 0)).setCell ⟨w.heap.size, 1, none⟩ (.int .i64 0)).setCell ⟨w.heap.size, 2, none⟩ (.int .i64 0)).setCell ⟨w.heap.size, 3, none⟩ (.int .u64 0)).cell? ⟨w.heap.size, 1, none⟩ = some (.int .i64 0) := (blk_cell HK.out 1).trans rfl
  have k2 : (((((w1.alloc (Obj.cells #[.int .i64 0, .int .i64 0, .int .i64 0, .int .u64 0] 63)).setCell ⟨w.heap.size, 0, none⟩ (.int .i64 0)).setCell ⟨w.heap.size, 1, none⟩ (.int .i64 0)).setCell ⟨w.heap.size, 2, none⟩ (.int .i64 0)).setCell ⟨w.heap.size, 3, none⟩ (.int .u64 0)).cell? ⟨w.heap.size, 2, none⟩ = some (.int .i64 0) := (blk_cell HK.out 2).trans rfl
  have k3 : (((((w1.alloc (Obj.cells #[.int .i64 0, .int .i64 0, .int .i64 0, .int .u64 0] 63)).setCell ⟨w.heap.size, 0, none⟩ (.int .i64 0)).setCell ⟨w.heap.size, 1, none⟩ (.int .i64 0)).setCell ⟨w.heap.size, 2, none⟩ (.int .i64 0)).setCell ⟨w.heap.size, 3, none⟩ (.int .u64 0)).cell? ⟨w.heap.size, 3, none⟩ = some (.int .u64 0) := (blk_cell HK.out 3).trans rfl
  refine bodyPost_ret (v := .tuple #[.agg #[.int .i64 0, .int .i64 0, .int .i64 0, .int .u64 0], .bool false, .int .u64 0, .int .i64 1]) (by simp [results, Tryd.results47, go_sem, k0, k1, k2, k3]; try rfl) rfl ?_
  exact ⟨rfl, (((HB.out.setCell (Nat.le_refl _) _).setCell (Nat.le_refl _) _).setCell (Nat.le_refl _) _).setCell (Nat.le_refl _) _⟩
set_option maxRecDepth 100000 in
set_option maxHeartbeats 2000000 in
theorem rank_bad (b : Nat) (h2 : 4294967296 ≤ b) (w : World) : Calls Tryd.prog 52 #[.int .i64 32, .int .u64 b] w fun e w' => e = .returned (.tuple #[.agg #[.int .i64 32, .int .i64 24, .int .i64 (-149), .int .u64 2143289345], .int .i64 0, .int .i64 2]) ∧ Below w.heap.size w w' := by
  have hu63 := Tryd.underlying63
  go_enter Tryd.func52, Tryd.ntmps52
  go_wp2_with fail
  refine (take_bad b h2 _).mono ?_
  rintro e w1 ⟨rfl, h1⟩
  have HR : Hid (Below w.heap.size w w1 ∧ w.heap.size < w1.heap.size ∧ w1.heap[w.heap.size]? = some (.cells #[.int .i64 0, .int .i64 0, .int .i64 0, .int .u64 0] 63 (0, 0))) :=
    Lib.hid ⟨on (box _ _) h1, Nat.lt_of_lt_of_le (by simp) h1.size, by rw [h1.block _ (by simp)]; exact heap_alloc_new _ _⟩
  clear h1
  have kb := blk_new w1 (Obj.cells #[.int .i64 32, .int .i64 24, .int .i64 (-149), .int .u64 2143289345] 63)
  have kr : (w1.alloc (Obj.cells #[.int .i64 32, .int .i64 24, .int .i64 (-149), .int .u64 2143289345] 63)).heap[w.heap.size]? = some (.cells #[.int .i64 0, .int .i64 0, .int .i64 0, .int .u64 0] 63 (0, 0)) := blk_below HR.out.2.2 (box _ _)
  have kz0 : (w1.alloc (Obj.cells #[.int .i64 32, .int .i64 24, .int .i64 (-149), .int .u64 2143289345] 63)).cell? ⟨w1.heap.size, 0, none⟩ = some (.int .i64 32) := (blk_cell kb 0).trans rfl
  have kz1 : (w1.alloc (Obj.cells #[.int .i64 32, .int .i64 24, .int .i64 (-149), .int .u64 2143289345] 63)).cell? ⟨w1.heap.size, 1, none⟩ = some (.int .i64 24) := (blk_cell kb 1).trans rfl
  have kz2 : (w1.alloc (Obj.cells #[.int .i64 32, .int .i64 24, .int .i64 (-149), .int .u64 2143289345] 63)).cell? ⟨w1.heap.size, 2, none⟩ = some (.int .i64 (-149)) := (blk_cell kb 2).trans rfl
  have kz3 : (w1.alloc (Obj.cells #[.int .i64 32, .int .i64 24, .int .i64 (-149), .int .u64 2143289345] 63)).cell? ⟨w1.heap.size, 3, none⟩ = some (.int .u64 2143289345) := (blk_cell kb 3).trans rfl
  have ky0 := (blk_cell kr 0).trans rfl
  have ky1 := (blk_cell kr 1).trans rfl
  have ky2 := (blk_cell kr 2).trans rfl
  have ky3 := (blk_cell kr 3).trans rfl
  have fy0 := blk_frozen kr 0
  have fy1 := blk_frozen kr 1
  have fy2 := blk_frozen kr 2
  have fy3 := blk_frozen kr 3
  have HK := Lib.hid (blk_set (blk_set (blk_set (blk_set kr 0 (.int .i64 32)) 1 (.int .i64 24)) 2 (.int .i64 (-149))) 3 (.int .u64 2143289345))
  have HB := Lib.hid (on HR.out.1 (box w1 (Obj.cells #[.int .i64 32, .int .i64 24, .int .i64 (-149), .int .u64 2143289345] 63)))
  clear kb kr
  go_wp2_with fail
  have k0 : (((((w1.alloc (Obj.cells #[.int .i64 32, .int .i64 24, .int .i64 (-149), .int .u64 2143289345] 63)).setCell ⟨w.heap.size, 0, none⟩ (.int .i64 32)).setCell ⟨w.heap.size, 1, none⟩ (.int .i64 24)).setCell ⟨w.heap.size, 2, none⟩ (.int .i64 (-149))).setCell ⟨w.heap.size, 3, none⟩ (.int .u64 2143289345)).cell? ⟨w.heap.size, 0, none⟩ = some (.int .i64 32) := (blk_cell HK.out 0).trans rfl
  have k1 : (((((w1.alloc (Obj.cells #[.int .i64 32, .int .i64 24, .int .i64 (-149), .int .u64 2143289345] 63)).setCell ⟨w.heap.size, 0, none⟩ (.int .i64 32)).setCell ⟨w.heap.size, 1, none⟩ (.int .i64 24)).setCell ⟨w.heap.size, 2, none⟩ (.int .i64 (-149))).setCell ⟨w.heap.size, 3, none⟩ (.int .u64 2143289345)).cell? ⟨w.heap.size, 1, none⟩ = some (.int .i64 24) := (blk_cell HK.out 1).trans rfl
  have k2 : (((((w1.alloc (Obj.cells #[.int .i64 32, .int .i64 24, .int .i64 (-149), .int .u64 2143289345] 63)).setCell ⟨w.heap.size, 0, none⟩ (.int .i64 32)).setCell ⟨w.heap.size, 1, none⟩ (.int .i64 24)).setCell ⟨w.heap.size, 2, none⟩ (.int .i64 (-149))).setCell ⟨w.heap.size, 3, none⟩ (.int .u64 2143289345)).cell? ⟨w.heap.size, 2, none⟩ = some (.int .i64 (-149)) := (blk_cell HK.out 2).trans rfl
  have k3 : (((((w1.alloc (Obj.cells #[.int .i64 32, .int .i64 24, .int .i64 (-149), .int .u64 2143289345] 63)).setCell ⟨w.heap.size, 0, none⟩ (.int .i64 32)).setCell ⟨w.heap.size, 1, none⟩ (.int .i64 24)).setCell ⟨w.heap.size, 2, none⟩ (.int .i64 (-149))).setCell ⟨w.heap.size, 3, none⟩ (.int .u64 2143289345)).cell? ⟨w.heap.size, 3, none⟩ = some (.int .u64 2143289345) := (blk_cell HK.out 3).trans rfl
  refine bodyPost_ret (v := .tuple #[.agg #[.int .i64 32, .int .i64 24, .int .i64 (-149), .int .u64 2143289345], .int .i64 0, .int .i64 2]) (by simp [results, Tryd.results52, go_sem, k0, k1, k2, k3]; try rfl) rfl ?_
  exact ⟨rfl, (((HB.out.setCell (Nat.le_refl _) _).setCell (Nat.le_refl _) _).setCell (Nat.le_refl _) _).setCell (Nat.le_refl _) _⟩
set_option maxRecDepth 100000 in
set_option maxHeartbeats 2000000 in
theorem rank_no (f : Int) (b : Nat) (g1 : f ≠ 32) (g2 : f ≠ 64) (w : World) : Calls Tryd.prog 52 #[.int .i64 f, .int .u64 b] w fun e w' => e = .returned (.tuple #[.agg #[.int .i64 0, .int .i64 0, .int .i64 0, .int .u64 0], .int .i64 0, .int .i64 1]) ∧ Below w.heap.size w w' := by
  have hu63 := Tryd.underlying63
  go_enter Tryd.func52, Tryd.ntmps52
  go_wp2_with fail
  refine (take_no f b g1 g2 _).mono ?_
  rintro e w1 ⟨rfl, h1⟩
  have HR : Hid (Below w.heap.size w w1 ∧ w.heap.size < w1.heap.size ∧ w1.heap[w.heap.size]? = some (.cells #[.int .i64 0, .int .i64 0, .int .i64 0, .int .u64 0] 63 (0, 0))) :=
    Lib.hid ⟨on (box _ _) h1, Nat.lt_of_lt_of_le (by simp) h1.size, by rw [h1.block _ (by simp)]; exact heap_alloc_new _ _⟩
  clear h1
  have kb := blk_new w1 (Obj.cells #[.int .i64 0, .int .i64 0, .int .i64 0, .int .u64 0] 63)
  have kr : (w1.alloc (Obj.cells #[.int .i64 0, .int .i64 0, .int .i64 0, .int .u64 0] 63)).heap[w.heap.size]? = some (.cells #[.int .i64 0, .int .i64 0, .int .i64 0, .int .u64 0] 63 (0, 0)) := blk_below HR.out.2.2 (box _ _)
  have kz0 : (w1.alloc (Obj.cells #[.int .i64 0, .int .i64 0, .int .i64 0, .int .u64 0] 63)).cell? ⟨w1.heap.size, 0, none⟩ = some (.int .i64 0) := (blk_cell kb 0).trans rfl
  have kz1 : (w1.alloc (Obj.cells #[.int .i64 0, .int .i64 0, .int .i64 0, .int .u64 0] 63)).cell? ⟨w1.heap.size, 1, none⟩ = some (.int .i64 0) := (blk_cell kb 1).trans rfl
  have kz2 : (w1.alloc (Obj.cells #[.int .i64 0, .int .i64 0, .int .i64 0, .int .u64 0] 63)).cell? ⟨w1.heap.size, 2, none⟩ = some (.int .i64 0) := (blk_cell kb 2).trans rfl
  have kz3 : (w1.alloc (Obj.cells #[.int .i64 0, .int .i64 0, .int .i64 0, .int .u64 0] 63)).cell? ⟨w1.heap.size, 3, none⟩ = some (.int .u64 0) := (blk_cell kb 3).trans rfl
  have ky0 := (blk_cell kr 0).trans rfl
  have ky1 := (blk_cell kr 1).trans rfl
  have ky2 := (blk_cell kr 2).trans rfl
  have ky3 := (blk_cell kr 3).trans rfl
  have fy0 := blk_frozen kr 0
  have fy1 := blk_frozen kr 1
  have fy2 := blk_frozen kr 2
  have fy3 := blk_frozen kr 3
  have HK := Lib.hid (blk_set (blk_set (blk_set (blk_set kr 0 (.int .i64 0)) 1 (.int .i64 0)) 2 (.int .i64 0)) 3 (.int .u64 0))
  have HB := Lib.hid (on HR.out.1 (box w1 (Obj.cells #[.int .i64 0, .int .i64 0, .int .i64 0, .int .u64 0] 63)))
  clear kb kr
  go_wp2_with fail
  have k0 : (((((w1.alloc (Obj.cells #[.int .i64 0, .int .i64 0, .int .i64 0, .int .u64 0] 63)).setCell ⟨w.heap.size, 0, none⟩ (.int .i64 0)).setCell ⟨w.heap.size, 1, none⟩ (.int .i64 0)).setCell ⟨w.heap.size, 2, none⟩ (.int .i64 0)).setCell ⟨w.heap.size, 3, none⟩ (.int .u64 0)).cell? ⟨w.heap.size, 0, none⟩ = some (.int .i64 0) := (blk_cell HK.out 0).trans rfl
  have k1 : (((((w1.alloc (Obj.cells #[.int .i64 0, .int .i64 0, .int .i64 0, .int .u64 0] 63)).setCell ⟨w.heap.size, 0, none⟩ (.int .i64 0)).setCell ⟨w.heap.size, 1, none⟩ (.int .i64 0)).setCell ⟨w.heap.size, 2, none⟩ (.int .i64 0)).setCell ⟨w.heap.size, 3, none⟩ (.int .u64 0)).cell? ⟨w.heap.size, 1, none⟩ = some (.int .i64 0) := (blk_cell HK.out 1).trans rfl
  have k2 : (((((w1.alloc (Obj.cells #[.int .i64 0, .int .i64 0, .int .i64 0, .int .u64 0] 63)).setCell ⟨w.heap.size, 0, none⟩ (.int .i64 0)).setCell ⟨w.heap.size, 1, none⟩ (.int .i64 0)).setCell ⟨w.heap.size, 2, none⟩ (.int .i64 0)).setCell ⟨w.heap.size, 3, none⟩ (.int .u64 0)).cell? ⟨w.heap.size, 2, none⟩ = some (.int .i64 0) := (blk_cell HK.out 2).trans rfl
  have k3 : (((((w1.alloc (Obj.cells #[.int .i64 0, .int .i64 0, .int .i64 0, .int .u64 0] 63)).setCell ⟨w.heap.size, 0, none⟩ (.int .i64 0)).setCell ⟨w.heap.size, 1, none⟩ (.int .i64 0)).setCell ⟨w.heap.size, 2, none⟩ (.int .i64 0)).setCell ⟨w.heap.size, 3, none⟩ (.int .u64 0)).cell? ⟨w.heap.size, 3, none⟩ = some (.int .u64 0) := (blk_cell HK.out 3).trans rfl
  refine bodyPost_ret (v := .tuple #[.agg #[.int .i64 0, .int .i64 0, .int .i64 0, .int .u64 0], .int .i64 0, .int .i64 1]) (by simp [results, Tryd.results52, go_sem, k0, k1, k2, k3]; try rfl) rfl ?_
  exact ⟨rfl, (((HB.out.setCell (Nat.le_refl _) _).setCell (Nat.le_refl _) _).setCell (Nat.le_refl _) _).setCell (Nat.le_refl _) _⟩
end Go.Proofs.YthpnmkclboennaaDoor.BinN
