/- Contracts of the program's Ranked. Condition: a rank is an int. -/
import Derived.Test.YthpnmkclboennaaDoorKBinaryNeighboursBinY
namespace Go.Proofs.YthpnmkclboennaaDoor.BinK
open Go.RowKit Go.Proofs.YthpnmkclboennaaDoorW.PrintWords Go.Proofs.YthpnmkclboennaaDoorW.PrintMore Go.Proofs.YthpnmkclboennaaDoorW.PrintLast Go.Proofs.YthpnmkclboennaaDoor.BinLaw Go.Proofs.YthpnmkclboennaaDoor.BinA Go.Proofs.YthpnmkclboennaaDoor.BinT Go.Proofs.YthpnmkclboennaaDoor.BinR Go.Proofs.YthpnmkclboennaaDoor.BinN Go.Proofs.YthpnmkclboennaaDoor.BinP
theorem ranked_pos_S (s : Nat) (hs : s ≤ 2139095040) (w : World) : Calls Tryd.prog 65 #[.int .i64 32, .int .i64 (s : Int)] w fun e w' => e = .returned (.tuple #[.int .u64 (s : Nat), .int .i64 0]) ∧ Below w.heap.size w w' := by
  have hu63 := Tryd.underlying63
  have q1 : decide ((s : Int) < 0) = false := decide_eq_false (by omega)
  have q2 : decide ((2139095040 : Int) < (s : Int)) = false := decide_eq_false (by omega)
  have q3 : decide ((s : Int) < -2139095040) = false := decide_eq_false (by omega)
  have q4 : IntKind.u64.wrap (s : Int) = (s : Int) := IntWalk.u64_in _ (by omega)
  go_enter Tryd.func65, Tryd.ntmps65
  go_wp2_with fail
  refine (shapeOf_S _).mono ?_
  rintro e w1 ⟨rfl, h1⟩
  go_wp2_with fail
  refine (inf_S _).mono ?_
  rintro e w2 ⟨rfl, hd⟩
  have kb := blk_below (blk_new w1 (Obj.cells #[.int .i64 32, .int .i64 24, .int .i64 (-149), .int .u64 2143289345] 63)) hd
  have kz0 : w2.cell? ⟨w1.heap.size, 0, none⟩ = some (.int .i64 32) := (blk_cell kb 0).trans rfl
  have kz1 : w2.cell? ⟨w1.heap.size, 1, none⟩ = some (.int .i64 24) := (blk_cell kb 1).trans rfl
  have kz2 : w2.cell? ⟨w1.heap.size, 2, none⟩ = some (.int .i64 (-149)) := (blk_cell kb 2).trans rfl
  have kz3 : w2.cell? ⟨w1.heap.size, 3, none⟩ = some (.int .u64 2143289345) := (blk_cell kb 3).trans rfl
  have HB := Lib.hid (on h1 (on (box _ _) hd))
  clear kb h1 hd
  go_wp2_with fail
  refine (made_pos_S s _).mono ?_
  rintro e w3 ⟨rfl, hd⟩
  have HB := Lib.hid (on HB.out hd)
  clear hd
  go_wp2_with fail
  go_ret2
  exact ⟨rfl, HB.out⟩
set_option maxRecDepth 100000 in
theorem ranked_neg_S (s : Nat) (h0 : 0 < s) (hs : s ≤ 2139095040) (w : World) : Calls Tryd.prog 65 #[.int .i64 32, .int .i64 (-(s : Int))] w fun e w' => e = .returned (.tuple #[.int .u64 (2147483648 + s : Nat), .int .i64 0]) ∧ Below w.heap.size w w' := by
  have hu63 := Tryd.underlying63
  have q1 : decide (-(s : Int) < 0) = true := decide_eq_true (by omega)
  have q2 : decide ((2139095040 : Int) < -(s : Int)) = false := decide_eq_false (by omega)
  have q3 : decide (-(s : Int) < -2139095040) = false := decide_eq_false (by omega)
  have q5 : decide ((2139095040 : Int) < (s : Int)) = false := decide_eq_false (by omega)
  have q6 : decide ((0 : Int) < (s : Int)) = true := decide_eq_true (by omega)
  have q7 : IntKind.i64.wrap (s : Int) = (s : Int) := IntWalk.i64_in _ (by omega)
  have q4 : IntKind.u64.wrap (s : Int) = (s : Int) := IntWalk.u64_in _ (by omega)
  go_enter Tryd.func65, Tryd.ntmps65
  go_wp2_with fail
  refine (shapeOf_S _).mono ?_
  rintro e w1 ⟨rfl, h1⟩
  go_wp2_with fail
  refine (inf_S _).mono ?_
  rintro e w2 ⟨rfl, hd⟩
  have kb := blk_below (blk_new w1 (Obj.cells #[.int .i64 32, .int .i64 24, .int .i64 (-149), .int .u64 2143289345] 63)) hd
  have kz0 : w2.cell? ⟨w1.heap.size, 0, none⟩ = some (.int .i64 32) := (blk_cell kb 0).trans rfl
  have kz1 : w2.cell? ⟨w1.heap.size, 1, none⟩ = some (.int .i64 24) := (blk_cell kb 1).trans rfl
  have kz2 : w2.cell? ⟨w1.heap.size, 2, none⟩ = some (.int .i64 (-149)) := (blk_cell kb 2).trans rfl
  have kz3 : w2.cell? ⟨w1.heap.size, 3, none⟩ = some (.int .u64 2143289345) := (blk_cell kb 3).trans rfl
  have HB := Lib.hid (on h1 (on (box _ _) hd))
  clear kb h1 hd
  go_wp2_with fail
  refine (made_neg_S s (by omega) _).mono ?_
  rintro e w3 ⟨rfl, hd⟩
  have HB := Lib.hid (on HB.out hd)
  clear hd
  go_wp2_with fail
  go_ret2
  exact ⟨rfl, HB.out⟩
theorem ranked_big_S (n : Int) (h : 2139095040 < n) (w : World) : Calls Tryd.prog 65 #[.int .i64 32, .int .i64 n] w fun e w' => e = .returned (.tuple #[.int .u64 0, .int .i64 1]) ∧ Below w.heap.size w w' := by
  have hu63 := Tryd.underlying63
  have q2 : decide ((2139095040 : Int) < n) = true := decide_eq_true h
  go_enter Tryd.func65, Tryd.ntmps65
  go_wp2_with fail
  refine (shapeOf_S _).mono ?_
  rintro e w1 ⟨rfl, h1⟩
  go_wp2_with fail
  refine (inf_S _).mono ?_
  rintro e w2 ⟨rfl, hd⟩
  have kb := blk_below (blk_new w1 (Obj.cells #[.int .i64 32, .int .i64 24, .int .i64 (-149), .int .u64 2143289345] 63)) hd
  have kz0 : w2.cell? ⟨w1.heap.size, 0, none⟩ = some (.int .i64 32) := (blk_cell kb 0).trans rfl
  have kz1 : w2.cell? ⟨w1.heap.size, 1, none⟩ = some (.int .i64 24) := (blk_cell kb 1).trans rfl
  have kz2 : w2.cell? ⟨w1.heap.size, 2, none⟩ = some (.int .i64 (-149)) := (blk_cell kb 2).trans rfl
  have kz3 : w2.cell? ⟨w1.heap.size, 3, none⟩ = some (.int .u64 2143289345) := (blk_cell kb 3).trans rfl
  have HB := Lib.hid (on h1 (on (box _ _) hd))
  clear kb h1 hd
  go_wp2_with fail
  go_ret2
  exact ⟨rfl, HB.out⟩
theorem ranked_small_S (n : Int) (h : n < -2139095040) (w : World) : Calls Tryd.prog 65 #[.int .i64 32, .int .i64 n] w fun e w' => e = .returned (.tuple #[.int .u64 0, .int .i64 1]) ∧ Below w.heap.size w w' := by
  have hu63 := Tryd.underlying63
  have q2 : decide ((2139095040 : Int) < n) = false := decide_eq_false (by omega)
  have q3 : decide (n < -2139095040) = true := decide_eq_true h
  go_enter Tryd.func65, Tryd.ntmps65
  go_wp2_with fail
  refine (shapeOf_S _).mono ?_
  rintro e w1 ⟨rfl, h1⟩
  go_wp2_with fail
  refine (inf_S _).mono ?_
  rintro e w2 ⟨rfl, hd⟩
  have kb := blk_below (blk_new w1 (Obj.cells #[.int .i64 32, .int .i64 24, .int .i64 (-149), .int .u64 2143289345] 63)) hd
  have kz0 : w2.cell? ⟨w1.heap.size, 0, none⟩ = some (.int .i64 32) := (blk_cell kb 0).trans rfl
  have kz1 : w2.cell? ⟨w1.heap.size, 1, none⟩ = some (.int .i64 24) := (blk_cell kb 1).trans rfl
  have kz2 : w2.cell? ⟨w1.heap.size, 2, none⟩ = some (.int .i64 (-149)) := (blk_cell kb 2).trans rfl
  have kz3 : w2.cell? ⟨w1.heap.size, 3, none⟩ = some (.int .u64 2143289345) := (blk_cell kb 3).trans rfl
  have HB := Lib.hid (on h1 (on (box _ _) hd))
  clear kb h1 hd
  go_wp2_with fail
  go_ret2
  exact ⟨rfl, HB.out⟩
theorem ranked_pos_D (s : Nat) (hs : s ≤ 9218868437227405312) (w : World) : Calls Tryd.prog 65 #[.int .i64 64, .int .i64 (s : Int)] w fun e w' => e = .returned (.tuple #[.int .u64 (s : Nat), .int .i64 0]) ∧ Below w.heap.size w w' := by
  have hu63 := Tryd.underlying63
  have q1 : decide ((s : Int) < 0) = false := decide_eq_false (by omega)
  have q2 : decide ((9218868437227405312 : Int) < (s : Int)) = false := decide_eq_false (by omega)
  have q3 : decide ((s : Int) < -9218868437227405312) = false := decide_eq_false (by omega)
  have q4 : IntKind.u64.wrap (s : Int) = (s : Int) := IntWalk.u64_in _ (by omega)
  go_enter Tryd.func65, Tryd.ntmps65
  go_wp2_with fail
  refine (shapeOf_D _).mono ?_
  rintro e w1 ⟨rfl, h1⟩
  go_wp2_with fail
  refine (inf_D _).mono ?_
  rintro e w2 ⟨rfl, hd⟩
  have kb := blk_below (blk_new w1 (Obj.cells #[.int .i64 64, .int .i64 53, .int .i64 (-1074), .int .u64 9221120237041090561] 63)) hd
  have kz0 : w2.cell? ⟨w1.heap.size, 0, none⟩ = some (.int .i64 64) := (blk_cell kb 0).trans rfl
  have kz1 : w2.cell? ⟨w1.heap.size, 1, none⟩ = some (.int .i64 53) := (blk_cell kb 1).trans rfl
  have kz2 : w2.cell? ⟨w1.heap.size, 2, none⟩ = some (.int .i64 (-1074)) := (blk_cell kb 2).trans rfl
  have kz3 : w2.cell? ⟨w1.heap.size, 3, none⟩ = some (.int .u64 9221120237041090561) := (blk_cell kb 3).trans rfl
  have HB := Lib.hid (on h1 (on (box _ _) hd))
  clear kb h1 hd
  go_wp2_with fail
  refine (made_pos_D s _).mono ?_
  rintro e w3 ⟨rfl, hd⟩
  have HB := Lib.hid (on HB.out hd)
  clear hd
  go_wp2_with fail
  go_ret2
  exact ⟨rfl, HB.out⟩
set_option maxRecDepth 100000 in
theorem ranked_neg_D (s : Nat) (h0 : 0 < s) (hs : s ≤ 9218868437227405312) (w : World) : Calls Tryd.prog 65 #[.int .i64 64, .int .i64 (-(s : Int))] w fun e w' => e = .returned (.tuple #[.int .u64 (9223372036854775808 + s : Nat), .int .i64 0]) ∧ Below w.heap.size w w' := by
  have hu63 := Tryd.underlying63
  have q1 : decide (-(s : Int) < 0) = true := decide_eq_true (by omega)
  have q2 : decide ((9218868437227405312 : Int) < -(s : Int)) = false := decide_eq_false (by omega)
  have q3 : decide (-(s : Int) < -9218868437227405312) = false := decide_eq_false (by omega)
  have q5 : decide ((9218868437227405312 : Int) < (s : Int)) = false := decide_eq_false (by omega)
  have q6 : decide ((0 : Int) < (s : Int)) = true := decide_eq_true (by omega)
  have q7 : IntKind.i64.wrap (s : Int) = (s : Int) := IntWalk.i64_in _ (by omega)
  have q4 : IntKind.u64.wrap (s : Int) = (s : Int) := IntWalk.u64_in _ (by omega)
  go_enter Tryd.func65, Tryd.ntmps65
  go_wp2_with fail
  refine (shapeOf_D _).mono ?_
  rintro e w1 ⟨rfl, h1⟩
  go_wp2_with fail
  refine (inf_D _).mono ?_
  rintro e w2 ⟨rfl, hd⟩
  have kb := blk_below (blk_new w1 (Obj.cells #[.int .i64 64, .int .i64 53, .int .i64 (-1074), .int .u64 9221120237041090561] 63)) hd
  have kz0 : w2.cell? ⟨w1.heap.size, 0, none⟩ = some (.int .i64 64) := (blk_cell kb 0).trans rfl
  have kz1 : w2.cell? ⟨w1.heap.size, 1, none⟩ = some (.int .i64 53) := (blk_cell kb 1).trans rfl
  have kz2 : w2.cell? ⟨w1.heap.size, 2, none⟩ = some (.int .i64 (-1074)) := (blk_cell kb 2).trans rfl
  have kz3 : w2.cell? ⟨w1.heap.size, 3, none⟩ = some (.int .u64 9221120237041090561) := (blk_cell kb 3).trans rfl
  have HB := Lib.hid (on h1 (on (box _ _) hd))
  clear kb h1 hd
  go_wp2_with fail
  refine (made_neg_D s (by omega) _).mono ?_
  rintro e w3 ⟨rfl, hd⟩
  have HB := Lib.hid (on HB.out hd)
  clear hd
  go_wp2_with fail
  go_ret2
  exact ⟨rfl, HB.out⟩
theorem ranked_big_D (n : Int) (h : 9218868437227405312 < n) (w : World) : Calls Tryd.prog 65 #[.int .i64 64, .int .i64 n] w fun e w' => e = .returned (.tuple #[.int .u64 0, .int .i64 1]) ∧ Below w.heap.size w w' := by
  have hu63 := Tryd.underlying63
  have q2 : decide ((9218868437227405312 : Int) < n) = true := decide_eq_true h
  go_enter Tryd.func65, Tryd.ntmps65
  go_wp2_with fail
  refine (shapeOf_D _).mono ?_
  rintro e w1 ⟨rfl, h1⟩
  go_wp2_with fail
  refine (inf_D _).mono ?_
  rintro e w2 ⟨rfl, hd⟩
  have kb := blk_below (blk_new w1 (Obj.cells #[.int .i64 64, .int .i64 53, .int .i64 (-1074), .int .u64 9221120237041090561] 63)) hd
  have kz0 : w2.cell? ⟨w1.heap.size, 0, none⟩ = some (.int .i64 64) := (blk_cell kb 0).trans rfl
  have kz1 : w2.cell? ⟨w1.heap.size, 1, none⟩ = some (.int .i64 53) := (blk_cell kb 1).trans rfl
  have kz2 : w2.cell? ⟨w1.heap.size, 2, none⟩ = some (.int .i64 (-1074)) := (blk_cell kb 2).trans rfl
  have kz3 : w2.cell? ⟨w1.heap.size, 3, none⟩ = some (.int .u64 9221120237041090561) := (blk_cell kb 3).trans rfl
  have HB := Lib.hid (on h1 (on (box _ _) hd))
  clear kb h1 hd
  go_wp2_with fail
  go_ret2
  exact ⟨rfl, HB.out⟩
theorem ranked_small_D (n : Int) (h : n < -9218868437227405312) (w : World) : Calls Tryd.prog 65 #[.int .i64 64, .int .i64 n] w fun e w' => e = .returned (.tuple #[.int .u64 0, .int .i64 1]) ∧ Below w.heap.size w w' := by
  have hu63 := Tryd.underlying63
  have q2 : decide ((9218868437227405312 : Int) < n) = false := decide_eq_false (by omega)
  have q3 : decide (n < -9218868437227405312) = true := decide_eq_true h
  go_enter Tryd.func65, Tryd.ntmps65
  go_wp2_with fail
  refine (shapeOf_D _).mono ?_
  rintro e w1 ⟨rfl, h1⟩
  go_wp2_with fail
  refine (inf_D _).mono ?_
  rintro e w2 ⟨rfl, hd⟩
  have kb := blk_below (blk_new w1 (Obj.cells #[.int .i64 64, .int .i64 53, .int .i64 (-1074), .int .u64 9221120237041090561] 63)) hd
  have kz0 : w2.cell? ⟨w1.heap.size, 0, none⟩ = some (.int .i64 64) := (blk_cell kb 0).trans rfl
  have kz1 : w2.cell? ⟨w1.heap.size, 1, none⟩ = some (.int .i64 53) := (blk_cell kb 1).trans rfl
  have kz2 : w2.cell? ⟨w1.heap.size, 2, none⟩ = some (.int .i64 (-1074)) := (blk_cell kb 2).trans rfl
  have kz3 : w2.cell? ⟨w1.heap.size, 3, none⟩ = some (.int .u64 9221120237041090561) := (blk_cell kb 3).trans rfl
  have HB := Lib.hid (on h1 (on (box _ _) hd))
  clear kb h1 hd
  go_wp2_with fail
  go_ret2
  exact ⟨rfl, HB.out⟩
theorem ranked_no (f n : Int) (g1 : f ≠ 32) (g2 : f ≠ 64) (w : World) : Calls Tryd.prog 65 #[.int .i64 f, .int .i64 n] w fun e w' => e = .returned (.tuple #[.int .u64 0, .int .i64 1]) ∧ Below w.heap.size w w' := by
  have hu63 := Tryd.underlying63
  go_enter Tryd.func65, Tryd.ntmps65
  go_wp2_with fail
  refine (shapeOf_no f g1 g2 _).mono ?_
  unfold shp0
  rintro e w1 ⟨rfl, h1⟩
  go_wp2_with fail
  go_ret2
  exact ⟨rfl, on h1 (box _ _)⟩
end Go.Proofs.YthpnmkclboennaaDoor.BinK
