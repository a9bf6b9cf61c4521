/- Contracts of the reference's DocRank. Condition: words of the format. -/
import Derived.Test.YthpnmkclboennaaDoorKBinaryStepsBinO
namespace Go.Proofs.YthpnmkclboennaaDoor.BinQ
open Go.RowKit Go.Proofs.YthpnmkclboennaaDoorW.PrintWords Go.Proofs.YthpnmkclboennaaDoorW.PrintLast Go.Proofs.YthpnmkclboennaaDoor.BinLaw Go.Proofs.YthpnmkclboennaaDoor.BinA Go.Proofs.YthpnmkclboennaaDoor.BinP Go.Proofs.YthpnmkclboennaaDoor.BinO
theorem Cut_S (b : Nat) (p e g i q : Value) (w : World) : Calls Tryd.prog 43 #[.agg #[.int .u64 2147483648, p, e, g, i, q], .int .u64 b] w fun e w' => e = .returned (.tuple #[.bool (decide (2147483648 ≤ b)), .int .u64 (b % 2147483648 : Nat)]) ∧ Below w.heap.size w w' := by
  have h := Cut_any 2147483648 b p e g i q (by decide) w
  have e1 : ((2147483648 : Nat) : Int) = (2147483648 : Int) := by decide
  rw [e1] at h
  exact h
set_option maxRecDepth 100000 in
theorem DocRank_pos_S (b : Nat) (h2 : b < 2147483648) (h3 : b ≤ 2139095040) (w : World) : Calls Tryd.prog 87 #[.int .i64 32, .int .u64 b] w fun e w' => e = .returned (.tuple #[.int .i64 (b : Int), .int .i64 0]) ∧ Below w.heap.size w w' := by
  have hu71 := Tryd.underlying71
  have e0 : b % 2147483648 = b := Nat.mod_eq_of_lt h2
  have q1 : decide ((2139095040 : Int) < (b : Int)) = false := decide_eq_false (by omega)
  have q2 : IntKind.i64.wrap (b : Int) = (b : Int) := IntWalk.i64_in _ (by omega)
  go_enter Tryd.func87, Tryd.ntmps87
  go_wp2_with fail
  refine (Check_ok_S b (by omega) _).mono ?_
  rintro e w1 ⟨rfl, h1⟩
  go_wp2_with fail
  refine (Of_S _).mono ?_
  rintro e w2 ⟨⟨g, rfl⟩, hd⟩
  have HB := Lib.hid (on h1 hd)
  clear h1 hd
  go_wp2_with fail
  refine (Cut_S b _ _ _ _ _ _).mono ?_
  rw [e0, decide_eq_false (by omega)]
  rintro e w3 ⟨rfl, hd⟩
  have kb := blk_below (blk_new w2 (Obj.cells #[.int .u64 2147483648, .int .i64 24, .int .i64 (-149), .int .i64 g, .int .u64 2139095040, .int .u64 2143289345] 71)) hd
  have kz4 : w3.cell? ⟨w2.heap.size, 4, none⟩ = some (.int .u64 2139095040) := (blk_cell kb 4).trans rfl
  have HB := Lib.hid (on HB.out (on (box _ _) hd))
  clear kb hd
  go_wp2_with fail
  go_ret2
  exact ⟨rfl, HB.out⟩
set_option maxRecDepth 100000 in
theorem DocRank_neg_S (b s : Nat) (h2 : b < 4294967296) (h4 : 2147483648 ≤ b) (e0 : b % 2147483648 = s) (h3 : s ≤ 2139095040) (w : World) : Calls Tryd.prog 87 #[.int .i64 32, .int .u64 b] w fun e w' => e = .returned (.tuple #[.int .i64 (-(s : Int)), .int .i64 0]) ∧ Below w.heap.size w w' := by
  have hu71 := Tryd.underlying71
  have q1 : decide ((2139095040 : Int) < (s : Int)) = false := decide_eq_false (by omega)
  have q2 : IntKind.i64.wrap (s : Int) = (s : Int) := IntWalk.i64_in _ (by omega)
  have q3 : IntKind.i64.wrap (-(s : Int)) = -(s : Int) := IntWalk.i64_in _ (by omega)
  go_enter Tryd.func87, Tryd.ntmps87
  go_wp2_with fail
  refine (Check_ok_S b (by omega) _).mono ?_
  rintro e w1 ⟨rfl, h1⟩
  go_wp2_with fail
  refine (Of_S _).mono ?_
  rintro e w2 ⟨⟨g, rfl⟩, hd⟩
  have HB := Lib.hid (on h1 hd)
  clear h1 hd
  go_wp2_with fail
  refine (Cut_S b _ _ _ _ _ _).mono ?_
  rw [e0, decide_eq_true h4]
  rintro e w3 ⟨rfl, hd⟩
  have kb := blk_below (blk_new w2 (Obj.cells #[.int .u64 2147483648, .int .i64 24, .int .i64 (-149), .int .i64 g, .int .u64 2139095040, .int .u64 2143289345] 71)) hd
  have kz4 : w3.cell? ⟨w2.heap.size, 4, none⟩ = some (.int .u64 2139095040) := (blk_cell kb 4).trans rfl
  have HB := Lib.hid (on HB.out (on (box _ _) hd))
  clear kb hd
  go_wp2_with fail
  go_ret2
  exact ⟨rfl, HB.out⟩
set_option maxRecDepth 100000 in
theorem DocRank_err_S (b s : Nat) (h2 : b < 4294967296) (e0 : b % 2147483648 = s) (h3 : 2139095040 < s) (w : World) : Calls Tryd.prog 87 #[.int .i64 32, .int .u64 b] w fun e w' => e = .returned (.tuple #[.int .i64 0, .int .i64 6]) ∧ Below w.heap.size w w' := by
  have hu71 := Tryd.underlying71
  have q1 : decide ((2139095040 : Int) < (s : Int)) = true := decide_eq_true (by omega)
  go_enter Tryd.func87, Tryd.ntmps87
  go_wp2_with fail
  refine (Check_ok_S b (by omega) _).mono ?_
  rintro e w1 ⟨rfl, h1⟩
  go_wp2_with fail
  refine (Of_S _).mono ?_
  rintro e w2 ⟨⟨g, rfl⟩, hd⟩
  have HB := Lib.hid (on h1 hd)
  clear h1 hd
  go_wp2_with fail
  refine (Cut_S b _ _ _ _ _ _).mono ?_
  rw [e0]
  rintro e w3 ⟨rfl, hd⟩
  have kb := blk_below (blk_new w2 (Obj.cells #[.int .u64 2147483648, .int .i64 24, .int .i64 (-149), .int .i64 g, .int .u64 2139095040, .int .u64 2143289345] 71)) hd
  have kz4 : w3.cell? ⟨w2.heap.size, 4, none⟩ = some (.int .u64 2139095040) := (blk_cell kb 4).trans rfl
  have HB := Lib.hid (on HB.out (on (box _ _) hd))
  clear kb hd
  go_wp2_with fail
  go_ret2
  exact ⟨rfl, HB.out⟩
theorem Cut_D (b : Nat) (p e g i q : Value) (w : World) : Calls Tryd.prog 43 #[.agg #[.int .u64 9223372036854775808, p, e, g, i, q], .int .u64 b] w fun e w' => e = .returned (.tuple #[.bool (decide (9223372036854775808 ≤ b)), .int .u64 (b % 9223372036854775808 : Nat)]) ∧ Below w.heap.size w w' := by
  have h := Cut_any 9223372036854775808 b p e g i q (by decide) w
  have e1 : ((9223372036854775808 : Nat) : Int) = (9223372036854775808 : Int) := by decide
  rw [e1] at h
  exact h
set_option maxRecDepth 100000 in
theorem DocRank_pos_D (b : Nat) (h2 : b < 9223372036854775808) (h3 : b ≤ 9218868437227405312) (w : World) : Calls Tryd.prog 87 #[.int .i64 64, .int .u64 b] w fun e w' => e = .returned (.tuple #[.int .i64 (b : Int), .int .i64 0]) ∧ Below w.heap.size w w' := by
  have hu71 := Tryd.underlying71
  have e0 : b % 9223372036854775808 = b := Nat.mod_eq_of_lt h2
  have q1 : decide ((9218868437227405312 : Int) < (b : Int)) = false := decide_eq_false (by omega)
  have q2 : IntKind.i64.wrap (b : Int) = (b : Int) := IntWalk.i64_in _ (by omega)
  go_enter Tryd.func87, Tryd.ntmps87
  go_wp2_with fail
  refine (Check_ok_D b (by omega) _).mono ?_
  rintro e w1 ⟨rfl, h1⟩
  go_wp2_with fail
  refine (Of_D _).mono ?_
  rintro e w2 ⟨⟨g, rfl⟩, hd⟩
  have HB := Lib.hid (on h1 hd)
  clear h1 hd
  go_wp2_with fail
  refine (Cut_D b _ _ _ _ _ _).mono ?_
  rw [e0, decide_eq_false (by omega)]
  rintro e w3 ⟨rfl, hd⟩
  have kb := blk_below (blk_new w2 (Obj.cells #[.int .u64 9223372036854775808, .int .i64 53, .int .i64 (-1074), .int .i64 g, .int .u64 9218868437227405312, .int .u64 9221120237041090561] 71)) hd
  have kz4 : w3.cell? ⟨w2.heap.size, 4, none⟩ = some (.int .u64 9218868437227405312) := (blk_cell kb 4).trans rfl
  have HB := Lib.hid (on HB.out (on (box _ _) hd))
  clear kb hd
  go_wp2_with fail
  go_ret2
  exact ⟨rfl, HB.out⟩
set_option maxRecDepth 100000 in
theorem DocRank_neg_D (b s : Nat) (h2 : b < 18446744073709551616) (h4 : 9223372036854775808 ≤ b) (e0 : b % 9223372036854775808 = s) (h3 : s ≤ 9218868437227405312) (w : World) : Calls Tryd.prog 87 #[.int .i64 64, .int .u64 b] w fun e w' => e = .returned (.tuple #[.int .i64 (-(s : Int)), .int .i64 0]) ∧ Below w.heap.size w w' := by
  have hu71 := Tryd.underlying71
  have q1 : decide ((9218868437227405312 : Int) < (s : Int)) = false := decide_eq_false (by omega)
  have q2 : IntKind.i64.wrap (s : Int) = (s : Int) := IntWalk.i64_in _ (by omega)
  have q3 : IntKind.i64.wrap (-(s : Int)) = -(s : Int) := IntWalk.i64_in _ (by omega)
  go_enter Tryd.func87, Tryd.ntmps87
  go_wp2_with fail
  refine (Check_ok_D b (by omega) _).mono ?_
  rintro e w1 ⟨rfl, h1⟩
  go_wp2_with fail
  refine (Of_D _).mono ?_
  rintro e w2 ⟨⟨g, rfl⟩, hd⟩
  have HB := Lib.hid (on h1 hd)
  clear h1 hd
  go_wp2_with fail
  refine (Cut_D b _ _ _ _ _ _).mono ?_
  rw [e0, decide_eq_true h4]
  rintro e w3 ⟨rfl, hd⟩
  have kb := blk_below (blk_new w2 (Obj.cells #[.int .u64 9223372036854775808, .int .i64 53, .int .i64 (-1074), .int .i64 g, .int .u64 9218868437227405312, .int .u64 9221120237041090561] 71)) hd
  have kz4 : w3.cell? ⟨w2.heap.size, 4, none⟩ = some (.int .u64 9218868437227405312) := (blk_cell kb 4).trans rfl
  have HB := Lib.hid (on HB.out (on (box _ _) hd))
  clear kb hd
  go_wp2_with fail
  go_ret2
  exact ⟨rfl, HB.out⟩
set_option maxRecDepth 100000 in
theorem DocRank_err_D (b s : Nat) (h2 : b < 18446744073709551616) (e0 : b % 9223372036854775808 = s) (h3 : 9218868437227405312 < s) (w : World) : Calls Tryd.prog 87 #[.int .i64 64, .int .u64 b] w fun e w' => e = .returned (.tuple #[.int .i64 0, .int .i64 6]) ∧ Below w.heap.size w w' := by
  have hu71 := Tryd.underlying71
  have q1 : decide ((9218868437227405312 : Int) < (s : Int)) = true := decide_eq_true (by omega)
  go_enter Tryd.func87, Tryd.ntmps87
  go_wp2_with fail
  refine (Check_ok_D b (by omega) _).mono ?_
  rintro e w1 ⟨rfl, h1⟩
  go_wp2_with fail
  refine (Of_D _).mono ?_
  rintro e w2 ⟨⟨g, rfl⟩, hd⟩
  have HB := Lib.hid (on h1 hd)
  clear h1 hd
  go_wp2_with fail
  refine (Cut_D b _ _ _ _ _ _).mono ?_
  rw [e0]
  rintro e w3 ⟨rfl, hd⟩
  have kb := blk_below (blk_new w2 (Obj.cells #[.int .u64 9223372036854775808, .int .i64 53, .int .i64 (-1074), .int .i64 g, .int .u64 9218868437227405312, .int .u64 9221120237041090561] 71)) hd
  have kz4 : w3.cell? ⟨w2.heap.size, 4, none⟩ = some (.int .u64 9218868437227405312) := (blk_cell kb 4).trans rfl
  have HB := Lib.hid (on HB.out (on (box _ _) hd))
  clear kb hd
  go_wp2_with fail
  go_ret2
  exact ⟨rfl, HB.out⟩
end Go.Proofs.YthpnmkclboennaaDoor.BinQ
