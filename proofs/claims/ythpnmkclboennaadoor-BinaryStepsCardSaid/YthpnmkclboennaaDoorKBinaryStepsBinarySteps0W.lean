/- The walk of the law BinarySteps: steps, and the plays of Next, Prev, Rank, Ranked. Conditions: words of the arguments' kinds. -/
import Derived.Test.YthpnmkclboennaaDoorKBinaryStepsBinAll
import Derived.Test.YthpnmkclboennaaDoorKBinaryStepsBinU2
namespace Go.Proofs.YthpnmkclboennaaDoor.BinarySteps0W
open Go.RowKit Go.Proofs.YthpnmkclboennaaDoorW.PrintWords Go.Proofs.YthpnmkclboennaaDoorW.PrintLast Go.Proofs.YthpnmkclboennaaDoor.BinLaw Go.Proofs.YthpnmkclboennaaDoor.BinA Go.Proofs.YthpnmkclboennaaDoor.BinP Go.Proofs.YthpnmkclboennaaDoor.BinU Go.Proofs.YthpnmkclboennaaDoor.BinU2 Go.Proofs.YthpnmkclboennaaDoor.BinY Go.Proofs.YthpnmkclboennaaDoor.BinAll
theorem pattern_6 (f n : Int) (b : Nat) (neg : Bool) (hb : b < 18446744073709551616) (w : World) : Calls Tryd.prog 88 #[.agg #[.int .i64 6, .int .i64 f, .int .u64 b, .bool neg, .int .i64 n]] w fun e w' => e = .returned (.tuple #[.int .u64 (nextF f b).1, .int .i64 (nextF f b).2]) ∧ Below w.heap.size w w' := by
  have HO := Lib.hid (fun w => BinY.Next_any f b hb w)
  generalize (nextF f b).1 = r1 at *
  generalize (nextF f b).2 = r2 at *
  go_enter Tryd.func88, Tryd.ntmps88
  go_wp2_with fail
  refine (HO.out _).mono ?_
  rintro e w1 ⟨rfl, h1⟩
  go_wp2_with fail
  go_ret2
  exact ⟨rfl, on (box _ _) h1⟩
theorem docPattern_6 (f n : Int) (b : Nat) (neg : Bool) (hb : b < 18446744073709551616) (w : World) : Calls Tryd.prog 89 #[.agg #[.int .i64 6, .int .i64 f, .int .u64 b, .bool neg, .int .i64 n]] w fun e w' => e = .returned (.tuple #[.int .u64 (nextF f b).1, .int .i64 (nextF f b).2]) ∧ Below w.heap.size w w' := by
  have HO := Lib.hid (fun w => BinU2.DocNext_any f b hb w)
  generalize (nextF f b).1 = r1 at *
  generalize (nextF f b).2 = r2 at *
  go_enter Tryd.func89, Tryd.ntmps89
  go_wp2_with fail
  refine (HO.out _).mono ?_
  rintro e w1 ⟨rfl, h1⟩
  go_wp2_with fail
  go_ret2
  exact ⟨rfl, on (box _ _) h1⟩
set_option maxRecDepth 100000 in
theorem plays_6 (I : World → Prop) : PlaysOk I 6 := by
  intro f b neg n w _ _ hb _
  have HP := Lib.hid (fun w => pattern_6 f n b neg hb w)
  have HD := Lib.hid (fun w => docPattern_6 f n b neg hb w)
  generalize (nextF f b).1 = r1 at *
  generalize (nextF f b).2 = r2 at *
  clear hb
  go_enter Tryd.func64, Tryd.ntmps64
  go_wp2_with fail
  refine (HP.out _).mono ?_
  rintro e w1 ⟨rfl, h1⟩
  have kb := blk_below (blk_new w (Obj.cells #[.int .i64 6, .int .i64 f, .int .u64 b, .bool neg, .int .i64 n] 101)) h1
  have kz0 : w1.cell? ⟨w.heap.size, 0, none⟩ = some (.int .i64 6) := (blk_cell kb 0).trans rfl
  have kz1 : w1.cell? ⟨w.heap.size, 1, none⟩ = some (.int .i64 f) := (blk_cell kb 1).trans rfl
  have kz2 : w1.cell? ⟨w.heap.size, 2, none⟩ = some (.int .u64 b) := (blk_cell kb 2).trans rfl
  have kz3 : w1.cell? ⟨w.heap.size, 3, none⟩ = some (.bool neg) := (blk_cell kb 3).trans rfl
  have kz4 : w1.cell? ⟨w.heap.size, 4, none⟩ = some (.int .i64 n) := (blk_cell kb 4).trans rfl
  have HB := Lib.hid (on (box _ _) h1)
  clear kb h1
  go_wp2_with fail
  refine (HD.out _).mono ?_
  rintro e w2 ⟨rfl, h2⟩
  have HB := Lib.hid (on HB.out h2)
  clear h2 kz0 kz1 kz2 kz3 kz4
  go_wp2_with fail
  go_ret
  exact ⟨by simp, HB.out⟩
theorem pattern_7 (f n : Int) (b : Nat) (neg : Bool) (hb : b < 18446744073709551616) (w : World) : Calls Tryd.prog 88 #[.agg #[.int .i64 7, .int .i64 f, .int .u64 b, .bool neg, .int .i64 n]] w fun e w' => e = .returned (.tuple #[.int .u64 (prevF f b).1, .int .i64 (prevF f b).2]) ∧ Below w.heap.size w w' := by
  have HO := Lib.hid (fun w => BinY.Prev_any f b hb w)
  generalize (prevF f b).1 = r1 at *
  generalize (prevF f b).2 = r2 at *
  go_enter Tryd.func88, Tryd.ntmps88
  go_wp2_with fail
  refine (HO.out _).mono ?_
  rintro e w1 ⟨rfl, h1⟩
  go_wp2_with fail
  go_ret2
  exact ⟨rfl, on (box _ _) h1⟩
theorem docPattern_7 (f n : Int) (b : Nat) (neg : Bool) (hb : b < 18446744073709551616) (w : World) : Calls Tryd.prog 89 #[.agg #[.int .i64 7, .int .i64 f, .int .u64 b, .bool neg, .int .i64 n]] w fun e w' => e = .returned (.tuple #[.int .u64 (prevF f b).1, .int .i64 (prevF f b).2]) ∧ Below w.heap.size w w' := by
  have HO := Lib.hid (fun w => BinU2.DocPrev_any f b hb w)
  generalize (prevF f b).1 = r1 at *
  generalize (prevF f b).2 = r2 at *
  go_enter Tryd.func89, Tryd.ntmps89
  go_wp2_with fail
  refine (HO.out _).mono ?_
  rintro e w1 ⟨rfl, h1⟩
  go_wp2_with fail
  go_ret2
  exact ⟨rfl, on (box _ _) h1⟩
set_option maxRecDepth 100000 in
theorem plays_7 (I : World → Prop) : PlaysOk I 7 := by
  intro f b neg n w _ _ hb _
  have HP := Lib.hid (fun w => pattern_7 f n b neg hb w)
  have HD := Lib.hid (fun w => docPattern_7 f n b neg hb w)
  generalize (prevF f b).1 = r1 at *
  generalize (prevF f b).2 = r2 at *
  clear hb
  go_enter Tryd.func64, Tryd.ntmps64
  go_wp2_with fail
  refine (HP.out _).mono ?_
  rintro e w1 ⟨rfl, h1⟩
  have kb := blk_below (blk_new w (Obj.cells #[.int .i64 7, .int .i64 f, .int .u64 b, .bool neg, .int .i64 n] 101)) h1
  have kz0 : w1.cell? ⟨w.heap.size, 0, none⟩ = some (.int .i64 7) := (blk_cell kb 0).trans rfl
  have kz1 : w1.cell? ⟨w.heap.size, 1, none⟩ = some (.int .i64 f) := (blk_cell kb 1).trans rfl
  have kz2 : w1.cell? ⟨w.heap.size, 2, none⟩ = some (.int .u64 b) := (blk_cell kb 2).trans rfl
  have kz3 : w1.cell? ⟨w.heap.size, 3, none⟩ = some (.bool neg) := (blk_cell kb 3).trans rfl
  have kz4 : w1.cell? ⟨w.heap.size, 4, none⟩ = some (.int .i64 n) := (blk_cell kb 4).trans rfl
  have HB := Lib.hid (on (box _ _) h1)
  clear kb h1
  go_wp2_with fail
  refine (HD.out _).mono ?_
  rintro e w2 ⟨rfl, h2⟩
  have HB := Lib.hid (on HB.out h2)
  clear h2 kz0 kz1 kz2 kz3 kz4
  go_wp2_with fail
  go_ret
  exact ⟨by simp, HB.out⟩
theorem pattern_10 (f n : Int) (b : Nat) (neg : Bool) (w : World) : Calls Tryd.prog 88 #[.agg #[.int .i64 10, .int .i64 f, .int .u64 b, .bool neg, .int .i64 n]] w fun e w' => e = .returned (.tuple #[.int .u64 (rankedF f n).1, .int .i64 (rankedF f n).2]) ∧ Below w.heap.size w w' := by
  have HO := Lib.hid (fun w => BinU.Ranked_any f n w)
  generalize (rankedF f n).1 = r1 at *
  generalize (rankedF f n).2 = r2 at *
  go_enter Tryd.func88, Tryd.ntmps88
  go_wp2_with fail
  refine (HO.out _).mono ?_
  rintro e w1 ⟨rfl, h1⟩
  go_wp2_with fail
  go_ret2
  exact ⟨rfl, on (box _ _) h1⟩
theorem docPattern_10 (f n : Int) (b : Nat) (neg : Bool) (w : World) : Calls Tryd.prog 89 #[.agg #[.int .i64 10, .int .i64 f, .int .u64 b, .bool neg, .int .i64 n]] w fun e w' => e = .returned (.tuple #[.int .u64 (rankedF f n).1, .int .i64 (rankedF f n).2]) ∧ Below w.heap.size w w' := by
  have HO := Lib.hid (fun w => BinU2.DocRanked_any f n w)
  generalize (rankedF f n).1 = r1 at *
  generalize (rankedF f n).2 = r2 at *
  go_enter Tryd.func89, Tryd.ntmps89
  go_wp2_with fail
  refine (HO.out _).mono ?_
  rintro e w1 ⟨rfl, h1⟩
  go_wp2_with fail
  go_ret2
  exact ⟨rfl, on (box _ _) h1⟩
set_option maxRecDepth 100000 in
theorem plays_10 (I : World → Prop) : PlaysOk I 10 := by
  intro f b neg n w _ _ hb _
  have HP := Lib.hid (fun w => pattern_10 f n b neg w)
  have HD := Lib.hid (fun w => docPattern_10 f n b neg w)
  generalize (rankedF f n).1 = r1 at *
  generalize (rankedF f n).2 = r2 at *
  clear hb
  go_enter Tryd.func64, Tryd.ntmps64
  go_wp2_with fail
  refine (HP.out _).mono ?_
  rintro e w1 ⟨rfl, h1⟩
  have kb := blk_below (blk_new w (Obj.cells #[.int .i64 10, .int .i64 f, .int .u64 b, .bool neg, .int .i64 n] 101)) h1
  have kz0 : w1.cell? ⟨w.heap.size, 0, none⟩ = some (.int .i64 10) := (blk_cell kb 0).trans rfl
  have kz1 : w1.cell? ⟨w.heap.size, 1, none⟩ = some (.int .i64 f) := (blk_cell kb 1).trans rfl
  have kz2 : w1.cell? ⟨w.heap.size, 2, none⟩ = some (.int .u64 b) := (blk_cell kb 2).trans rfl
  have kz3 : w1.cell? ⟨w.heap.size, 3, none⟩ = some (.bool neg) := (blk_cell kb 3).trans rfl
  have kz4 : w1.cell? ⟨w.heap.size, 4, none⟩ = some (.int .i64 n) := (blk_cell kb 4).trans rfl
  have HB := Lib.hid (on (box _ _) h1)
  clear kb h1
  go_wp2_with fail
  refine (HD.out _).mono ?_
  rintro e w2 ⟨rfl, h2⟩
  have HB := Lib.hid (on HB.out h2)
  clear h2 kz0 kz1 kz2 kz3 kz4
  go_wp2_with fail
  go_ret
  exact ⟨by simp, HB.out⟩
set_option maxRecDepth 100000 in
theorem plays_9 (I : World → Prop) : PlaysOk I 9 := by
  intro f b neg n w _ _ hb _
  have HP := Lib.hid (fun w => BinP.Rank_any f b hb w)
  have HD := Lib.hid (fun w => BinU.DocRank_any f b hb w)
  generalize (rankF f b).1 = r1 at *
  generalize (rankF f b).2 = r2 at *
  clear hb
  go_enter Tryd.func64, Tryd.ntmps64
  go_wp2_with fail
  refine (HP.out _).mono ?_
  rintro e w1 ⟨rfl, h1⟩
  have kb := blk_below (blk_new w (Obj.cells #[.int .i64 9, .int .i64 f, .int .u64 b, .bool neg, .int .i64 n] 101)) h1
  have kz1 : w1.cell? ⟨w.heap.size, 1, none⟩ = some (.int .i64 f) := (blk_cell kb 1).trans rfl
  have kz2 : w1.cell? ⟨w.heap.size, 2, none⟩ = some (.int .u64 b) := (blk_cell kb 2).trans rfl
  have HB := Lib.hid (on (box _ _) h1)
  clear kb h1
  go_wp2_with fail
  refine (HD.out _).mono ?_
  rintro e w2 ⟨rfl, h2⟩
  have HB := Lib.hid (on HB.out h2)
  clear h2 kz1 kz2
  go_wp2_with fail
  go_ret
  exact ⟨by simp, HB.out⟩
theorem next_at (w : World) : Calls Tryd.prog 32 #[.int .i64 64, .int .u64 9223372036854775808] w fun e w' => e = .returned (.tuple #[.int .u64 1, .int .i64 0]) ∧ Below w.heap.size w w' := by
  have h := BinY.Next_any 64 9223372036854775808 (by decide) w
  have e : nextF 64 9223372036854775808 = (1, 0) := by unfold nextF; rw [onF_64]; decide +kernel
  rw [e] at h
  exact h
theorem prev_at (w : World) : Calls Tryd.prog 33 #[.int .i64 32, .int .u64 1] w fun e w' => e = .returned (.tuple #[.int .u64 0, .int .i64 0]) ∧ Below w.heap.size w w' := by
  have h := BinY.Prev_any 32 1 (by decide) w
  have e : prevF 32 1 = (0, 0) := by unfold prevF; rw [onF_32]; decide +kernel
  rw [e] at h
  exact h
theorem rank_at (w : World) : Calls Tryd.prog 22 #[.int .i64 32, .int .u64 2147483653] w fun e w' => e = .returned (.tuple #[.int .i64 (-5), .int .i64 0]) ∧ Below w.heap.size w w' := by
  have h := BinP.Rank_any 32 2147483653 (by decide) w
  have e : rankF 32 2147483653 = (-5, 0) := by unfold rankF; rw [onF_32]; decide +kernel
  rw [e] at h
  exact h
theorem ranked_at (w : World) : Calls Tryd.prog 65 #[.int .i64 64, .int .i64 77] w fun e w' => e = .returned (.tuple #[.int .u64 77, .int .i64 0]) ∧ Below w.heap.size w w' := by
  have h := BinU.Ranked_any 64 77 w
  have e : rankedF 64 77 = (77, 0) := by unfold rankedF; rw [onF_64]; decide +kernel
  rw [e] at h
  exact h
theorem steps_any (w : World) : Calls Tryd.prog 30 #[] w (OnW w) := by
  go_enter Tryd.func30, Tryd.ntmps30
  go_wp2_with fail
  refine (next_at _).mono ?_
  rintro e w1 ⟨rfl, h1⟩
  go_wp2_with fail
  refine (prev_at _).mono ?_
  rintro e w2 ⟨rfl, h2⟩
  go_wp2_with fail
  refine (rank_at _).mono ?_
  rintro e w3 ⟨rfl, h3⟩
  go_wp2_with fail
  refine (ranked_at _).mono ?_
  rintro e w4 ⟨rfl, h4⟩
  go_wp2_with fail
  go_ret
  exact ⟨rfl, on h1 (on h2 (on h3 h4))⟩
end Go.Proofs.YthpnmkclboennaaDoor.BinarySteps0W
