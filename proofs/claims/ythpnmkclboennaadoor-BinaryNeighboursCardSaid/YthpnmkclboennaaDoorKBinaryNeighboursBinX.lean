/- Contracts of the program's Next. Condition: words of the format. -/
import Derived.Test.YthpnmkclboennaaDoorKBinaryNeighboursWEqStruct
namespace Go.Proofs.YthpnmkclboennaaDoor.BinX
open Go.RowKit Go.Proofs.YthpnmkclboennaaDoorW.PrintWords Go.Proofs.YthpnmkclboennaaDoorW.PrintMore Go.Proofs.YthpnmkclboennaaDoorW.PrintLast Go.Proofs.YthpnmkclboennaaDoor.BinLaw Go.Proofs.YthpnmkclboennaaDoor.BinA Go.Proofs.YthpnmkclboennaaDoor.BinT Go.Proofs.YthpnmkclboennaaDoor.BinR Go.Proofs.YthpnmkclboennaaDoor.BinN Go.Proofs.YthpnmkclboennaaDoor.BinP
theorem next_err_S (b : Nat) (h2 : b < 4294967296) (h : rk fS b = (0, 6)) (w : World) : Calls Tryd.prog 32 #[.int .i64 32, .int .u64 b] w fun e w' => e = .returned (.tuple #[.int .u64 0, .int .i64 6]) ∧ Below w.heap.size w w' := by
  have hu63 := Tryd.underlying63
  go_enter Tryd.func32, Tryd.ntmps32
  go_wp2_with fail
  refine (rank_S b h2 _).mono ?_
  rw [h]
  rintro e w1 ⟨rfl, h1⟩
  go_wp2_with fail
  go_ret2
  exact ⟨rfl, on h1 (box _ _)⟩
theorem next_neg_S (b s : Nat) (h2 : b < 4294967296) (h : rk fS b = (-(s : Int), 0)) (h0 : 0 < s) (hs : s ≤ 2139095040) (w : World) : Calls Tryd.prog 32 #[.int .i64 32, .int .u64 b] w fun e w' => e = .returned (.tuple #[.int .u64 (2147483648 + (s - 1) : Nat), .int .i64 0]) ∧ Below w.heap.size w w' := by
  have hu63 := Tryd.underlying63
  have q1 : decide (-(s : Int) < 0) = true := decide_eq_true (by omega)
  have q2 : ((-(s : Int)) == 2139095040) = false := by
    have : (-(s : Int)) ≠ 2139095040 := by omega
    simpa using this
  have q3 : IntKind.u64.wrap (IntKind.i64.wrap (IntKind.i64.wrap (-(-(s : Int))) - 1)) = ((s - 1 : Nat) : Int) := by
    have a1 : IntKind.i64.wrap (s : Int) = (s : Int) := IntWalk.i64_in _ (by omega)
    have a2 : IntKind.i64.wrap ((s : Int) - 1) = (s : Int) - 1 := IntWalk.i64_in _ (by omega)
    have a3 : IntKind.u64.wrap ((s : Int) - 1) = (s : Int) - 1 := IntWalk.u64_in _ (by omega)
    rw [Int.neg_neg, a1, a2, a3]
    omega
  go_enter Tryd.func32, Tryd.ntmps32
  go_wp2_with fail
  refine (rank_S b h2 _).mono ?_
  rw [h]
  rintro e w1 ⟨rfl, h1⟩
  go_wp2_with fail
  refine (inf_S _).mono ?_
  rintro e w2 ⟨rfl, hd⟩
  have kb := blk_below (blk_new w1 (Obj.cells #[.int .i64 32, .int .i64 24, .int .i64 (-149), .int .u64 2143289345] 63)) hd
  have kz0 : w2.cell? ⟨w1.heap.size, 0, none⟩ = some (.int .i64 32) := (blk_cell kb 0).trans rfl
  have kz1 : w2.cell? ⟨w1.heap.size, 1, none⟩ = some (.int .i64 24) := (blk_cell kb 1).trans rfl
  have kz2 : w2.cell? ⟨w1.heap.size, 2, none⟩ = some (.int .i64 (-149)) := (blk_cell kb 2).trans rfl
  have kz3 : w2.cell? ⟨w1.heap.size, 3, none⟩ = some (.int .u64 2143289345) := (blk_cell kb 3).trans rfl
  have HB := Lib.hid (on h1 (on (box _ _) hd))
  clear kb h1 hd
  go_wp2_with fail
  have es : (s : Int) - 1 = ((s - 1 : Nat) : Int) := by omega
  rw [es]
  refine (made_neg_S (s - 1) (by omega) _).mono ?_
  rintro e w3 ⟨rfl, hd⟩
  have HB := Lib.hid (on HB.out hd)
  clear hd q1 q2 q3 es
  go_wp2_with fail
  go_ret2
  exact ⟨rfl, HB.out⟩
theorem next_inf_S (b : Nat) (h2 : b < 4294967296) (h : rk fS b = ((2139095040 : Int), 0)) (w : World) : Calls Tryd.prog 32 #[.int .i64 32, .int .u64 b] w fun e w' => e = .returned (.tuple #[.int .u64 0, .int .i64 6]) ∧ Below w.heap.size w w' := by
  have hu63 := Tryd.underlying63
  go_enter Tryd.func32, Tryd.ntmps32
  go_wp2_with fail
  refine (rank_S b h2 _).mono ?_
  rw [h]
  rintro e w1 ⟨rfl, h1⟩
  go_wp2_with fail
  refine (inf_S _).mono ?_
  rintro e w2 ⟨rfl, hd⟩
  have kb := blk_below (blk_new w1 (Obj.cells #[.int .i64 32, .int .i64 24, .int .i64 (-149), .int .u64 2143289345] 63)) hd
  have kz0 : w2.cell? ⟨w1.heap.size, 0, none⟩ = some (.int .i64 32) := (blk_cell kb 0).trans rfl
  have kz1 : w2.cell? ⟨w1.heap.size, 1, none⟩ = some (.int .i64 24) := (blk_cell kb 1).trans rfl
  have kz2 : w2.cell? ⟨w1.heap.size, 2, none⟩ = some (.int .i64 (-149)) := (blk_cell kb 2).trans rfl
  have kz3 : w2.cell? ⟨w1.heap.size, 3, none⟩ = some (.int .u64 2143289345) := (blk_cell kb 3).trans rfl
  have HB := Lib.hid (on h1 (on (box _ _) hd))
  clear kb h1 hd
  go_wp2_with fail
  go_ret2
  exact ⟨rfl, HB.out⟩
theorem next_pos_S (b s : Nat) (h2 : b < 4294967296) (h : rk fS b = ((s : Int), 0)) (hs : s < 2139095040) (w : World) : Calls Tryd.prog 32 #[.int .i64 32, .int .u64 b] w fun e w' => e = .returned (.tuple #[.int .u64 (s + 1 : Nat), .int .i64 0]) ∧ Below w.heap.size w w' := by
  have hu63 := Tryd.underlying63
  have q1 : decide ((s : Int) < 0) = false := decide_eq_false (by omega)
  have q2 : ((s : Int) == 2139095040) = false := by
    have : (s : Int) ≠ 2139095040 := by omega
    simpa using this
  have q3 : IntKind.i64.wrap ((s : Int) + 1) = (s : Int) + 1 := IntWalk.i64_in _ (by omega)
  have q4 : IntKind.u64.wrap ((s : Int) + 1) = (s : Int) + 1 := IntWalk.u64_in _ (by omega)
  go_enter Tryd.func32, Tryd.ntmps32
  go_wp2_with fail
  refine (rank_S b h2 _).mono ?_
  rw [h]
  rintro e w1 ⟨rfl, h1⟩
  go_wp2_with fail
  refine (inf_S _).mono ?_
  rintro e w2 ⟨rfl, hd⟩
  have kb := blk_below (blk_new w1 (Obj.cells #[.int .i64 32, .int .i64 24, .int .i64 (-149), .int .u64 2143289345] 63)) hd
  have kz0 : w2.cell? ⟨w1.heap.size, 0, none⟩ = some (.int .i64 32) := (blk_cell kb 0).trans rfl
  have kz1 : w2.cell? ⟨w1.heap.size, 1, none⟩ = some (.int .i64 24) := (blk_cell kb 1).trans rfl
  have kz2 : w2.cell? ⟨w1.heap.size, 2, none⟩ = some (.int .i64 (-149)) := (blk_cell kb 2).trans rfl
  have kz3 : w2.cell? ⟨w1.heap.size, 3, none⟩ = some (.int .u64 2143289345) := (blk_cell kb 3).trans rfl
  have HB := Lib.hid (on h1 (on (box _ _) hd))
  clear kb h1 hd
  go_wp2_with fail
  have es : (s : Int) + 1 = ((s + 1 : Nat) : Int) := by omega
  rw [es]
  refine (made_pos_S (s + 1) _).mono ?_
  rintro e w3 ⟨rfl, hd⟩
  have HB := Lib.hid (on HB.out hd)
  clear hd q1 q2 q3 q4 es
  go_wp2_with fail
  go_ret2
  exact ⟨rfl, HB.out⟩
theorem next_err_D (b : Nat) (h2 : b < 18446744073709551616) (h : rk fD b = (0, 6)) (w : World) : Calls Tryd.prog 32 #[.int .i64 64, .int .u64 b] w fun e w' => e = .returned (.tuple #[.int .u64 0, .int .i64 6]) ∧ Below w.heap.size w w' := by
  have hu63 := Tryd.underlying63
  go_enter Tryd.func32, Tryd.ntmps32
  go_wp2_with fail
  refine (rank_D b h2 _).mono ?_
  rw [h]
  rintro e w1 ⟨rfl, h1⟩
  go_wp2_with fail
  go_ret2
  exact ⟨rfl, on h1 (box _ _)⟩
theorem next_neg_D (b s : Nat) (h2 : b < 18446744073709551616) (h : rk fD b = (-(s : Int), 0)) (h0 : 0 < s) (hs : s ≤ 9218868437227405312) (w : World) : Calls Tryd.prog 32 #[.int .i64 64, .int .u64 b] w fun e w' => e = .returned (.tuple #[.int .u64 (9223372036854775808 + (s - 1) : Nat), .int .i64 0]) ∧ Below w.heap.size w w' := by
  have hu63 := Tryd.underlying63
  have q1 : decide (-(s : Int) < 0) = true := decide_eq_true (by omega)
  have q2 : ((-(s : Int)) == 9218868437227405312) = false := by
    have : (-(s : Int)) ≠ 9218868437227405312 := by omega
    simpa using this
  have q3 : IntKind.u64.wrap (IntKind.i64.wrap (IntKind.i64.wrap (-(-(s : Int))) - 1)) = ((s - 1 : Nat) : Int) := by
    have a1 : IntKind.i64.wrap (s : Int) = (s : Int) := IntWalk.i64_in _ (by omega)
    have a2 : IntKind.i64.wrap ((s : Int) - 1) = (s : Int) - 1 := IntWalk.i64_in _ (by omega)
    have a3 : IntKind.u64.wrap ((s : Int) - 1) = (s : Int) - 1 := IntWalk.u64_in _ (by omega)
    rw [Int.neg_neg, a1, a2, a3]
    omega
  go_enter Tryd.func32, Tryd.ntmps32
  go_wp2_with fail
  refine (rank_D b h2 _).mono ?_
  rw [h]
  rintro e w1 ⟨rfl, h1⟩
  go_wp2_with fail
  refine (inf_D _).mono ?_
  rintro e w2 ⟨rfl, hd⟩
  have kb := blk_below (blk_new w1 (Obj.cells #[.int .i64 64, .int .i64 53, .int .i64 (-1074), .int .u64 9221120237041090561] 63)) hd
  have kz0 : w2.cell? ⟨w1.heap.size, 0, none⟩ = some (.int .i64 64) := (blk_cell kb 0).trans rfl
  have kz1 : w2.cell? ⟨w1.heap.size, 1, none⟩ = some (.int .i64 53) := (blk_cell kb 1).trans rfl
  have kz2 : w2.cell? ⟨w1.heap.size, 2, none⟩ = some (.int .i64 (-1074)) := (blk_cell kb 2).trans rfl
  have kz3 : w2.cell? ⟨w1.heap.size, 3, none⟩ = some (.int .u64 9221120237041090561) := (blk_cell kb 3).trans rfl
  have HB := Lib.hid (on h1 (on (box _ _) hd))
  clear kb h1 hd
  go_wp2_with fail
  have es : (s : Int) - 1 = ((s - 1 : Nat) : Int) := by omega
  rw [es]
  refine (made_neg_D (s - 1) (by omega) _).mono ?_
  rintro e w3 ⟨rfl, hd⟩
  have HB := Lib.hid (on HB.out hd)
  clear hd q1 q2 q3 es
  go_wp2_with fail
  go_ret2
  exact ⟨rfl, HB.out⟩
theorem next_inf_D (b : Nat) (h2 : b < 18446744073709551616) (h : rk fD b = ((9218868437227405312 : Int), 0)) (w : World) : Calls Tryd.prog 32 #[.int .i64 64, .int .u64 b] w fun e w' => e = .returned (.tuple #[.int .u64 0, .int .i64 6]) ∧ Below w.heap.size w w' := by
  have hu63 := Tryd.underlying63
  go_enter Tryd.func32, Tryd.ntmps32
  go_wp2_with fail
  refine (rank_D b h2 _).mono ?_
  rw [h]
  rintro e w1 ⟨rfl, h1⟩
  go_wp2_with fail
  refine (inf_D _).mono ?_
  rintro e w2 ⟨rfl, hd⟩
  have kb := blk_below (blk_new w1 (Obj.cells #[.int .i64 64, .int .i64 53, .int .i64 (-1074), .int .u64 9221120237041090561] 63)) hd
  have kz0 : w2.cell? ⟨w1.heap.size, 0, none⟩ = some (.int .i64 64) := (blk_cell kb 0).trans rfl
  have kz1 : w2.cell? ⟨w1.heap.size, 1, none⟩ = some (.int .i64 53) := (blk_cell kb 1).trans rfl
  have kz2 : w2.cell? ⟨w1.heap.size, 2, none⟩ = some (.int .i64 (-1074)) := (blk_cell kb 2).trans rfl
  have kz3 : w2.cell? ⟨w1.heap.size, 3, none⟩ = some (.int .u64 9221120237041090561) := (blk_cell kb 3).trans rfl
  have HB := Lib.hid (on h1 (on (box _ _) hd))
  clear kb h1 hd
  go_wp2_with fail
  go_ret2
  exact ⟨rfl, HB.out⟩
theorem next_pos_D (b s : Nat) (h2 : b < 18446744073709551616) (h : rk fD b = ((s : Int), 0)) (hs : s < 9218868437227405312) (w : World) : Calls Tryd.prog 32 #[.int .i64 64, .int .u64 b] w fun e w' => e = .returned (.tuple #[.int .u64 (s + 1 : Nat), .int .i64 0]) ∧ Below w.heap.size w w' := by
  have hu63 := Tryd.underlying63
  have q1 : decide ((s : Int) < 0) = false := decide_eq_false (by omega)
  have q2 : ((s : Int) == 9218868437227405312) = false := by
    have : (s : Int) ≠ 9218868437227405312 := by omega
    simpa using this
  have q3 : IntKind.i64.wrap ((s : Int) + 1) = (s : Int) + 1 := IntWalk.i64_in _ (by omega)
  have q4 : IntKind.u64.wrap ((s : Int) + 1) = (s : Int) + 1 := IntWalk.u64_in _ (by omega)
  go_enter Tryd.func32, Tryd.ntmps32
  go_wp2_with fail
  refine (rank_D b h2 _).mono ?_
  rw [h]
  rintro e w1 ⟨rfl, h1⟩
  go_wp2_with fail
  refine (inf_D _).mono ?_
  rintro e w2 ⟨rfl, hd⟩
  have kb := blk_below (blk_new w1 (Obj.cells #[.int .i64 64, .int .i64 53, .int .i64 (-1074), .int .u64 9221120237041090561] 63)) hd
  have kz0 : w2.cell? ⟨w1.heap.size, 0, none⟩ = some (.int .i64 64) := (blk_cell kb 0).trans rfl
  have kz1 : w2.cell? ⟨w1.heap.size, 1, none⟩ = some (.int .i64 53) := (blk_cell kb 1).trans rfl
  have kz2 : w2.cell? ⟨w1.heap.size, 2, none⟩ = some (.int .i64 (-1074)) := (blk_cell kb 2).trans rfl
  have kz3 : w2.cell? ⟨w1.heap.size, 3, none⟩ = some (.int .u64 9221120237041090561) := (blk_cell kb 3).trans rfl
  have HB := Lib.hid (on h1 (on (box _ _) hd))
  clear kb h1 hd
  go_wp2_with fail
  have es : (s : Int) + 1 = ((s + 1 : Nat) : Int) := by omega
  rw [es]
  refine (made_pos_D (s + 1) _).mono ?_
  rintro e w3 ⟨rfl, hd⟩
  have HB := Lib.hid (on HB.out hd)
  clear hd q1 q2 q3 q4 es
  go_wp2_with fail
  go_ret2
  exact ⟨rfl, HB.out⟩
end Go.Proofs.YthpnmkclboennaaDoor.BinX
