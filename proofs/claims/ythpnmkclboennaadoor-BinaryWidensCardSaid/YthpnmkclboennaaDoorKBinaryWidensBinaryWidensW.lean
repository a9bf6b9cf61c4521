/- The walk of the law BinaryWidens: it returns true, and the world has at most new blocks. Condition: the script reads as calls; math/bits' table is laid. -/
import Derived.Test.YthpnmkclboennaaDoorKBinaryWidensBinWd
import Derived.Test.YthpnmkclboennaaDoorKBinaryWidensBinAll
import Derived.Test.YthpnmkclboennaaDoorKBinaryWidensPLibx13
namespace Go.Proofs.YthpnmkclboennaaDoor.BinaryWidensW
open Go.RowKit Go.Proofs.YthpnmkclboennaaDoorW.PrintWords Go.Proofs.YthpnmkclboennaaDoorW.PrintMore Go.Proofs.YthpnmkclboennaaDoorW.PrintLast Go.Proofs.YthpnmkclboennaaDoor.Num Go.Proofs.YthpnmkclboennaaDoor.Ref Go.Proofs.YthpnmkclboennaaDoor.BinLaw Go.Proofs.YthpnmkclboennaaDoor.BinA Go.Proofs.YthpnmkclboennaaDoor.BinO2 Go.Proofs.YthpnmkclboennaaDoor.BinF Go.Proofs.YthpnmkclboennaaDoor.BinG Go.Proofs.YthpnmkclboennaaDoor.BinW Go.Proofs.YthpnmkclboennaaDoor.BinTab Go.Proofs.YthpnmkclboennaaDoor.BinJ4 Go.Proofs.YthpnmkclboennaaDoor.BinJ5 Go.Proofs.YthpnmkclboennaaDoor.BinWd Go.Proofs.YthpnmkclboennaaDoor.BinAll
theorem Widen_any (b : Nat) (hb : b < 18446744073709551616) (w : World) (hT : Tab w) : Calls Tryd.prog 19 #[.int .u64 b] w fun e w' => e = .returned (.tuple #[.int .u64 (wdF b).1, .int .i64 (wdF b).2]) ∧ Below w.heap.size w w' := by
  unfold wdF
  by_cases c : 4294967296 ≤ b
  · rw [if_pos c]; exact widen_bad b hb c w
  rw [if_neg c]
  by_cases c1 : fS.inf < b % fS.sg
  · rw [if_pos c1]; exact widen_nan b (by omega) c1 w
  rw [if_neg c1]
  by_cases c2 : b % fS.sg = fS.inf
  · rw [if_pos c2]; exact widen_inf b (by omega) c2 w
  · rw [if_neg c2]; exact widen_fin b (by omega) (by omega) w hT
theorem DocWiden_any (b : Nat) (hb : b < 18446744073709551616) (w : World) : Calls Tryd.prog 107 #[.int .u64 b] w fun e w' => e = .returned (.tuple #[.int .u64 (wdF b).1, .int .i64 (wdF b).2]) ∧ Below w.heap.size w w' := by
  obtain ⟨k, hk⟩ := (docwiden_ev b hb).rounds
  exact PLib.gnomonref07_DocWiden.calls k _ _ _ w hk
theorem pattern_11 (f n : Int) (b : Nat) (neg : Bool) (hb : b < 18446744073709551616) (w : World) (hT : Tab (w.alloc (Obj.cells #[.int .i64 11, .int .i64 f, .int .u64 b, .bool neg, .int .i64 n] 101))) : Calls Tryd.prog 88 #[.agg #[.int .i64 11, .int .i64 f, .int .u64 b, .bool neg, .int .i64 n]] w fun e w' => e = .returned (.tuple #[.int .u64 (wdF b).1, .int .i64 (wdF b).2]) ∧ Below w.heap.size w w' := by
  have HO := Lib.hid (fun w hT => Widen_any b hb w hT)
  have T := Lib.hid hT
  generalize (wdF b).1 = r1 at *
  generalize (wdF b).2 = r2 at *
  clear hb hT
  go_enter Tryd.func88, Tryd.ntmps88
  go_wp2_with fail
  refine (HO.out _ T.out).mono ?_
  rintro e w1 ⟨rfl, h1⟩
  go_wp2_with fail
  go_ret2
  exact ⟨rfl, on (box _ _) h1⟩
theorem docPattern_11 (f n : Int) (b : Nat) (neg : Bool) (hb : b < 18446744073709551616) (w : World) : Calls Tryd.prog 89 #[.agg #[.int .i64 11, .int .i64 f, .int .u64 b, .bool neg, .int .i64 n]] w fun e w' => e = .returned (.tuple #[.int .u64 (wdF b).1, .int .i64 (wdF b).2]) ∧ Below w.heap.size w w' := by
  have HO := Lib.hid (fun w => DocWiden_any b hb w)
  generalize (wdF b).1 = r1 at *
  generalize (wdF b).2 = r2 at *
  clear hb
  go_enter Tryd.func89, Tryd.ntmps89
  go_wp2_with fail
  refine (HO.out _).mono ?_
  rintro e w1 ⟨rfl, h1⟩
  go_wp2_with fail
  go_ret2
  exact ⟨rfl, on (box _ _) h1⟩
set_option maxRecDepth 100000 in
theorem plays_11 : PlaysOk Tab 11 := by
  intro f b neg n w hT hf hb hn
  have HP := Lib.hid (fun w hT => pattern_11 f n b neg hb w hT)
  have HD := Lib.hid (fun w => docPattern_11 f n b neg hb w)
  have bx := box w (Obj.cells #[.int .i64 11, .int .i64 f, .int .u64 b, .bool neg, .int .i64 n] 101)
  have T := Lib.hid ((hT.next bx).next (box _ (Obj.cells #[.int .i64 11, .int .i64 f, .int .u64 b, .bool neg, .int .i64 n] 101)))
  generalize (wdF b).1 = r1 at *
  generalize (wdF b).2 = r2 at *
  clear hb hf hn bx hT
  go_enter Tryd.func64, Tryd.ntmps64
  go_wp2_with fail
  refine (HP.out _ T.out).mono ?_
  rintro e w1 ⟨rfl, h1⟩
  have kb := blk_below (blk_new w (Obj.cells #[.int .i64 11, .int .i64 f, .int .u64 b, .bool neg, .int .i64 n] 101)) h1
  have kz0 : w1.cell? ⟨w.heap.size, 0, none⟩ = some (.int .i64 11) := (blk_cell kb 0).trans rfl
  have kz1 : w1.cell? ⟨w.heap.size, 1, none⟩ = some (.int .i64 f) := (blk_cell kb 1).trans rfl
  have kz2 : w1.cell? ⟨w.heap.size, 2, none⟩ = some (.int .u64 b) := (blk_cell kb 2).trans rfl
  have kz3 : w1.cell? ⟨w.heap.size, 3, none⟩ = some (.bool neg) := (blk_cell kb 3).trans rfl
  have kz4 : w1.cell? ⟨w.heap.size, 4, none⟩ = some (.int .i64 n) := (blk_cell kb 4).trans rfl
  have HB := Lib.hid (on (box _ _) h1)
  clear kb h1
  go_wp2_with fail
  refine (HD.out _).mono ?_
  rintro e w2 ⟨rfl, h2⟩
  have HB := Lib.hid (on HB.out h2)
  clear h2 kz0 kz1 kz2 kz3 kz4
  go_wp2_with fail
  go_ret
  exact ⟨by simp, HB.out⟩
theorem widen_at (w : World) (hT : Tab w) : Calls Tryd.prog 19 #[.int .u64 2147483649] w fun e w' => e = .returned (.tuple #[.int .u64 13159518111176589312, .int .i64 0]) ∧ Below w.heap.size w w' := by
  have h := Widen_any 2147483649 (by decide) w hT
  have e : wdF 2147483649 = (13159518111176589312, 0) := by decide +kernel
  rw [e] at h
  exact h
set_option maxRecDepth 100000 in
theorem walk_any (a : Option Addr) (len cap : Nat) (W : World) (hs : IsOps W a len) (hn : len < 9000000000000000000) (hT : Tab W) : Calls Tryd.prog 9 #[.slice a len cap] W (OnW W) := by
  have HS := Lib.hid (And.intro hs hn)
  have T := Lib.hid hT
  clear hs hT hn
  go_enter Tryd.func9, Tryd.ntmps9
  go_wp2_with fail
  refine (widen_at _ T.out).mono ?_
  rintro e w1 ⟨rfl, h1⟩
  have bx := box w1 (Obj.cells #[.int .i64 11] 3)
  have HB := Lib.hid (on h1 bx)
  have T := Lib.hid ((T.out.next h1).next bx)
  clear h1 bx
  go_wp2_with fail
  have hk : ∀ j, j < 1 → (w1.alloc (Obj.cells #[.int .i64 11] 3)).cell? ⟨w1.heap.size, j, none⟩ = some (.int .i64 11) := by
    intro j hj
    obtain rfl : j = 0 := by omega
    simp
  refine (all_any Tab (fun _ _ h d => h.next d) a len cap w1.heap.size 1 1 (fun _ => 11) W _ HS.out.1 HB.out T.out HS.out.2 (by decide) (by decide) hk (fun _ _ => plays_11)).mono ?_
  rintro e w3 ⟨rfl, h3⟩
  have HB := Lib.hid (on HB.out h3)
  clear hk h3
  go_wp2_with fail
  go_ret
  exact ⟨rfl, HB.out⟩
end Go.Proofs.YthpnmkclboennaaDoor.BinaryWidensW
