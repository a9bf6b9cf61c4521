/- Contracts of take's refusals, made and rank. Condition: words below 2^64. -/
import Derived.Test.YthpnmkclboennaaDoorKBinaryNeighboursBinT
import Derived.IntWalk
namespace Go.Proofs.YthpnmkclboennaaDoor.BinR
open Go.RowKit Go.Proofs.YthpnmkclboennaaDoorW.PrintWords Go.Proofs.YthpnmkclboennaaDoorW.PrintMore Go.Proofs.YthpnmkclboennaaDoorW.PrintLast Go.Proofs.YthpnmkclboennaaDoor.BinLaw Go.Proofs.YthpnmkclboennaaDoor.BinA Go.Proofs.YthpnmkclboennaaDoor.BinT
theorem made_neg_S (s : Nat) (hs : s < 2147483648) (w : World) : Calls Tryd.prog 50 #[.agg #[.int .i64 32, .int .i64 24, .int .i64 (-149), .int .u64 2143289345], .bool true, .int .u64 s] w fun e w' => e = .returned (.int .u64 (2147483648 + s : Nat)) ∧ Below w.heap.size w w' := by
  have hu63 := Tryd.underlying63
  have e1 := or_sg (F := fS) (by unfold IsF; simp) (s := s) hs
  go_enter Tryd.func50, Tryd.ntmps50
  go_wp2_with fail
  refine (sign_S _).mono ?_
  rintro e w1 ⟨rfl, h1⟩
  have HB := Lib.hid (on (box _ _) h1)
  clear h1
  go_wp2_with fail
  go_ret
  exact ⟨by rw [show ((2147483648 : Int)) = ((fS.sg : Nat) : Int) from rfl, e1]; rfl, HB.out⟩
theorem made_pos_S (s : Nat) (w : World) : Calls Tryd.prog 50 #[.agg #[.int .i64 32, .int .i64 24, .int .i64 (-149), .int .u64 2143289345], .bool false, .int .u64 s] w fun e w' => e = .returned (.int .u64 s) ∧ Below w.heap.size w w' := by
  go_enter Tryd.func50, Tryd.ntmps50
  go_wp2_with fail
  go_ret
  exact ⟨rfl, box _ _⟩
set_option maxRecDepth 100000 in
set_option maxHeartbeats 2000000 in
theorem rank_S (b : Nat) (h2 : b < 4294967296) (w : World) : Calls Tryd.prog 52 #[.int .i64 32, .int .u64 b] w fun e w' => e = .returned (.tuple #[.agg #[.int .i64 32, .int .i64 24, .int .i64 (-149), .int .u64 2143289345], .int .i64 (rk fS b).1, .int .i64 (rk fS b).2]) ∧ Below w.heap.size w w' := by
  have hu63 := Tryd.underlying63
  have hrk := rk_cases fS b
  have hF : fS.sg = 2147483648 ∧ fS.inf = 2139095040 := ⟨rfl, rfl⟩
  rw [hF.1, hF.2] at hrk
  have hsl : b % 2147483648 < 2147483648 := Nat.mod_lt _ (by decide)
  have hml : b < 2147483648 → b % 2147483648 = b := Nat.mod_eq_of_lt
  go_enter Tryd.func52, Tryd.ntmps52
  go_wp2_with fail
  refine (take_S b h2 _).mono ?_
  rintro e w1 ⟨rfl, h1⟩
  have HR : Hid (Below w.heap.size w w1 ∧ w.heap.size < w1.heap.size ∧ w1.heap[w.heap.size]? = some (.cells #[.int .i64 0, .int .i64 0, .int .i64 0, .int .u64 0] 63 (0, 0))) :=
    Lib.hid ⟨on (box _ _) h1, Nat.lt_of_lt_of_le (by simp) h1.size, by rw [h1.block _ (by simp)]; exact heap_alloc_new _ _⟩
  clear h1
  generalize hs : b % 2147483648 = s at hrk hsl hml ⊢
  have hbad : ¬ 2 * 2147483648 ≤ b := by omega
  by_cases hi : 2139095040 < s
  · have HV : Hid (rk fS b = (0, 6)) := by
      rcases hrk with h | h | h | h
      · exact absurd h.1 hbad
      · exact Lib.hid h.2.2
      · omega
      · have := hml h.1; omega
    have q : decide ((2139095040 : Int) < (s : Int)) = true := decide_eq_true (by omega)
    generalize decide (2147483648 ≤ b) = c
    clear hrk hbad hi hs hF hsl hml h2
    go_wp2_with fail
    refine (inf_S _).mono ?_
    rintro e w2 ⟨rfl, h1⟩
    have kb := blk_below (blk_new w1 (Obj.cells #[.int .i64 32, .int .i64 24, .int .i64 (-149), .int .u64 2143289345] 63)) h1
    have kz0 : w2.cell? ⟨w1.heap.size, 0, none⟩ = some (.int .i64 32) := (blk_cell kb 0).trans rfl
    have kz1 : w2.cell? ⟨w1.heap.size, 1, none⟩ = some (.int .i64 24) := (blk_cell kb 1).trans rfl
    have kz2 : w2.cell? ⟨w1.heap.size, 2, none⟩ = some (.int .i64 (-149)) := (blk_cell kb 2).trans rfl
    have kz3 : w2.cell? ⟨w1.heap.size, 3, none⟩ = some (.int .u64 2143289345) := (blk_cell kb 3).trans rfl
    have kr : w2.heap[w.heap.size]? = some (.cells #[.int .i64 0, .int .i64 0, .int .i64 0, .int .u64 0] 63 (0, 0)) := blk_below (blk_below HR.out.2.2 (box _ _)) h1
    have ky0 := (blk_cell kr 0).trans rfl
    have ky1 := (blk_cell kr 1).trans rfl
    have ky2 := (blk_cell kr 2).trans rfl
    have ky3 := (blk_cell kr 3).trans rfl
    have fy0 := blk_frozen kr 0
    have fy1 := blk_frozen kr 1
    have fy2 := blk_frozen kr 2
    have fy3 := blk_frozen kr 3
    have HK := Lib.hid (blk_set (blk_set (blk_set (blk_set kr 0 (.int .i64 32)) 1 (.int .i64 24)) 2 (.int .i64 (-149))) 3 (.int .u64 2143289345))
    have HB := Lib.hid (on HR.out.1 (on (box _ _) h1))
    clear kb kr h1
    go_wp2_with fail
    have k0 : ((((w2.setCell ⟨w.heap.size, 0, none⟩ (.int .i64 32)).setCell ⟨w.heap.size, 1, none⟩ (.int .i64 24)).setCell ⟨w.heap.size, 2, none⟩ (.int .i64 (-149))).setCell ⟨w.heap.size, 3, none⟩ (.int .u64 2143289345)).cell? ⟨w.heap.size, 0, none⟩ = some (.int .i64 32) := (blk_cell HK.out 0).trans rfl
    have k1 : ((((w2.setCell ⟨w.heap.size, 0, none⟩ (.int .i64 32)).setCell ⟨w.heap.size, 1, none⟩ (.int .i64 24)).setCell ⟨w.heap.size, 2, none⟩ (.int .i64 (-149))).setCell ⟨w.heap.size, 3, none⟩ (.int .u64 2143289345)).cell? ⟨w.heap.size, 1, none⟩ = some (.int .i64 24) := (blk_cell HK.out 1).trans rfl
    have k2 : ((((w2.setCell ⟨w.heap.size, 0, none⟩ (.int .i64 32)).setCell ⟨w.heap.size, 1, none⟩ (.int .i64 24)).setCell ⟨w.heap.size, 2, none⟩ (.int .i64 (-149))).setCell ⟨w.heap.size, 3, none⟩ (.int .u64 2143289345)).cell? ⟨w.heap.size, 2, none⟩ = some (.int .i64 (-149)) := (blk_cell HK.out 2).trans rfl
    have k3 : ((((w2.setCell ⟨w.heap.size, 0, none⟩ (.int .i64 32)).setCell ⟨w.heap.size, 1, none⟩ (.int .i64 24)).setCell ⟨w.heap.size, 2, none⟩ (.int .i64 (-149))).setCell ⟨w.heap.size, 3, none⟩ (.int .u64 2143289345)).cell? ⟨w.heap.size, 3, none⟩ = some (.int .u64 2143289345) := (blk_cell HK.out 3).trans rfl
    refine bodyPost_ret (v := .tuple #[.agg #[.int .i64 32, .int .i64 24, .int .i64 (-149), .int .u64 2143289345], .int .i64 0, .int .i64 6]) (by simp [results, Tryd.results52, go_sem, k0, k1, k2, k3]; try rfl) rfl ?_
    exact ⟨by rw [HV.out], (((HB.out.setCell (Nat.le_refl _) _).setCell (Nat.le_refl _) _).setCell (Nat.le_refl _) _).setCell (Nat.le_refl _) _⟩
  · have q : decide ((2139095040 : Int) < (s : Int)) = false := decide_eq_false (by omega)
    by_cases hc : 2147483648 ≤ b
    · have HV : Hid (rk fS b = (-(s : Int), 0)) := by
        rcases hrk with h | h | h | h
        · exact absurd h.1 hbad
        · omega
        · exact Lib.hid h.2.2.2
        · omega
      rw [decide_eq_true hc]
      have qw : IntKind.i64.wrap (s : Int) = s := IntWalk.i64_in _ (by omega)
      have qn : IntKind.i64.wrap (-(s : Int)) = -(s : Int) := IntWalk.i64_in _ (by omega)
      clear hrk hbad hi hc hs hF hsl hml h2
      go_wp2_with fail
      refine (inf_S _).mono ?_
      rintro e w2 ⟨rfl, h1⟩
      have kb := blk_below (blk_new w1 (Obj.cells #[.int .i64 32, .int .i64 24, .int .i64 (-149), .int .u64 2143289345] 63)) h1
      have kz0 : w2.cell? ⟨w1.heap.size, 0, none⟩ = some (.int .i64 32) := (blk_cell kb 0).trans rfl
      have kz1 : w2.cell? ⟨w1.heap.size, 1, none⟩ = some (.int .i64 24) := (blk_cell kb 1).trans rfl
      have kz2 : w2.cell? ⟨w1.heap.size, 2, none⟩ = some (.int .i64 (-149)) := (blk_cell kb 2).trans rfl
      have kz3 : w2.cell? ⟨w1.heap.size, 3, none⟩ = some (.int .u64 2143289345) := (blk_cell kb 3).trans rfl
      have kr : w2.heap[w.heap.size]? = some (.cells #[.int .i64 0, .int .i64 0, .int .i64 0, .int .u64 0] 63 (0, 0)) := blk_below (blk_below HR.out.2.2 (box _ _)) h1
      have ky0 := (blk_cell kr 0).trans rfl
      have ky1 := (blk_cell kr 1).trans rfl
      have ky2 := (blk_cell kr 2).trans rfl
      have ky3 := (blk_cell kr 3).trans rfl
      have fy0 := blk_frozen kr 0
      have fy1 := blk_frozen kr 1
      have fy2 := blk_frozen kr 2
      have fy3 := blk_frozen kr 3
      have HK := Lib.hid (blk_set (blk_set (blk_set (blk_set kr 0 (.int .i64 32)) 1 (.int .i64 24)) 2 (.int .i64 (-149))) 3 (.int .u64 2143289345))
      have HB := Lib.hid (on HR.out.1 (on (box _ _) h1))
      clear kb kr h1
      go_wp2_with fail
      have k0 : ((((w2.setCell ⟨w.heap.size, 0, none⟩ (.int .i64 32)).setCell ⟨w.heap.size, 1, none⟩ (.int .i64 24)).setCell ⟨w.heap.size, 2, none⟩ (.int .i64 (-149))).setCell ⟨w.heap.size, 3, none⟩ (.int .u64 2143289345)).cell? ⟨w.heap.size, 0, none⟩ = some (.int .i64 32) := (blk_cell HK.out 0).trans rfl
      have k1 : ((((w2.setCell ⟨w.heap.size, 0, none⟩ (.int .i64 32)).setCell ⟨w.heap.size, 1, none⟩ (.int .i64 24)).setCell ⟨w.heap.size, 2, none⟩ (.int .i64 (-149))).setCell ⟨w.heap.size, 3, none⟩ (.int .u64 2143289345)).cell? ⟨w.heap.size, 1, none⟩ = some (.int .i64 24) := (blk_cell HK.out 1).trans rfl
      have k2 : ((((w2.setCell ⟨w.heap.size, 0, none⟩ (.int .i64 32)).setCell ⟨w.heap.size, 1, none⟩ (.int .i64 24)).setCell ⟨w.heap.size, 2, none⟩ (.int .i64 (-149))).setCell ⟨w.heap.size, 3, none⟩ (.int .u64 2143289345)).cell? ⟨w.heap.size, 2, none⟩ = some (.int .i64 (-149)) := (blk_cell HK.out 2).trans rfl
      have k3 : ((((w2.setCell ⟨w.heap.size, 0, none⟩ (.int .i64 32)).setCell ⟨w.heap.size, 1, none⟩ (.int .i64 24)).setCell ⟨w.heap.size, 2, none⟩ (.int .i64 (-149))).setCell ⟨w.heap.size, 3, none⟩ (.int .u64 2143289345)).cell? ⟨w.heap.size, 3, none⟩ = some (.int .u64 2143289345) := (blk_cell HK.out 3).trans rfl
      refine bodyPost_ret (v := .tuple #[.agg #[.int .i64 32, .int .i64 24, .int .i64 (-149), .int .u64 2143289345], .int .i64 (-(s : Int)), .int .i64 0]) (by simp [results, Tryd.results52, go_sem, k0, k1, k2, k3]; try rfl) rfl ?_
      exact ⟨by rw [HV.out], (((HB.out.setCell (Nat.le_refl _) _).setCell (Nat.le_refl _) _).setCell (Nat.le_refl _) _).setCell (Nat.le_refl _) _⟩
    · have HV : Hid (rk fS b = ((s : Int), 0)) := by
        rcases hrk with h | h | h | h
        · exact absurd h.1 hbad
        · omega
        · omega
        · rw [hml h.1]; exact Lib.hid h.2.2
      rw [decide_eq_false hc]
      have qw : IntKind.i64.wrap (s : Int) = s := IntWalk.i64_in _ (by omega)
      clear hrk hbad hi hc hs hF hsl hml h2
      go_wp2_with fail
      refine (inf_S _).mono ?_
      rintro e w2 ⟨rfl, h1⟩
      have kb := blk_below (blk_new w1 (Obj.cells #[.int .i64 32, .int .i64 24, .int .i64 (-149), .int .u64 2143289345] 63)) h1
      have kz0 : w2.cell? ⟨w1.heap.size, 0, none⟩ = some (.int .i64 32) := (blk_cell kb 0).trans rfl
      have kz1 : w2.cell? ⟨w1.heap.size, 1, none⟩ = some (.int .i64 24) := (blk_cell kb 1).trans rfl
      have kz2 : w2.cell? ⟨w1.heap.size, 2, none⟩ = some (.int .i64 (-149)) := (blk_cell kb 2).trans rfl
      have kz3 : w2.cell? ⟨w1.heap.size, 3, none⟩ = some (.int .u64 2143289345) := (blk_cell kb 3).trans rfl
      have kr : w2.heap[w.heap.size]? = some (.cells #[.int .i64 0, .int .i64 0, .int .i64 0, .int .u64 0] 63 (0, 0)) := blk_below (blk_below HR.out.2.2 (box _ _)) h1
      have ky0 := (blk_cell kr 0).trans rfl
      have ky1 := (blk_cell kr 1).trans rfl
      have ky2 := (blk_cell kr 2).trans rfl
      have ky3 := (blk_cell kr 3).trans rfl
      have fy0 := blk_frozen kr 0
      have fy1 := blk_frozen kr 1
      have fy2 := blk_frozen kr 2
      have fy3 := blk_frozen kr 3
      have HK := Lib.hid (blk_set (blk_set (blk_set (blk_set kr 0 (.int .i64 32)) 1 (.int .i64 24)) 2 (.int .i64 (-149))) 3 (.int .u64 2143289345))
      have HB := Lib.hid (on HR.out.1 (on (box _ _) h1))
      clear kb kr h1
      go_wp2_with fail
      have k0 : ((((w2.setCell ⟨w.heap.size, 0, none⟩ (.int .i64 32)).setCell ⟨w.heap.size, 1, none⟩ (.int .i64 24)).setCell ⟨w.heap.size, 2, none⟩ (.int .i64 (-149))).setCell ⟨w.heap.size, 3, none⟩ (.int .u64 2143289345)).cell? ⟨w.heap.size, 0, none⟩ = some (.int .i64 32) := (blk_cell HK.out 0).trans rfl
      have k1 : ((((w2.setCell ⟨w.heap.size, 0, none⟩ (.int .i64 32)).setCell ⟨w.heap.size, 1, none⟩ (.int .i64 24)).setCell ⟨w.heap.size, 2, none⟩ (.int .i64 (-149))).setCell ⟨w.heap.size, 3, none⟩ (.int .u64 2143289345)).cell? ⟨w.heap.size, 1, none⟩ = some (.int .i64 24) := (blk_cell HK.out 1).trans rfl
      have k2 : ((((w2.setCell ⟨w.heap.size, 0, none⟩ (.int .i64 32)).setCell ⟨w.heap.size, 1, none⟩ (.int .i64 24)).setCell ⟨w.heap.size, 2, none⟩ (.int .i64 (-149))).setCell ⟨w.heap.size, 3, none⟩ (.int .u64 2143289345)).cell? ⟨w.heap.size, 2, none⟩ = some (.int .i64 (-149)) := (blk_cell HK.out 2).trans rfl
      have k3 : ((((w2.setCell ⟨w.heap.size, 0, none⟩ (.int .i64 32)).setCell ⟨w.heap.size, 1, none⟩ (.int .i64 24)).setCell ⟨w.heap.size, 2, none⟩ (.int .i64 (-149))).setCell ⟨w.heap.size, 3, none⟩ (.int .u64 2143289345)).cell? ⟨w.heap.size, 3, none⟩ = some (.int .u64 2143289345) := (blk_cell HK.out 3).trans rfl
      refine bodyPost_ret (v := .tuple #[.agg #[.int .i64 32, .int .i64 24, .int .i64 (-149), .int .u64 2143289345], .int .i64 (s : Int), .int .i64 0]) (by simp [results, Tryd.results52, go_sem, k0, k1, k2, k3]; try rfl) rfl ?_
      exact ⟨by rw [HV.out], (((HB.out.setCell (Nat.le_refl _) _).setCell (Nat.le_refl _) _).setCell (Nat.le_refl _) _).setCell (Nat.le_refl _) _⟩
theorem made_neg_D (s : Nat) (hs : s < 9223372036854775808) (w : World) : Calls Tryd.prog 50 #[.agg #[.int .i64 64, .int .i64 53, .int .i64 (-1074), .int .u64 9221120237041090561], .bool true, .int .u64 s] w fun e w' => e = .returned (.int .u64 (9223372036854775808 + s : Nat)) ∧ Below w.heap.size w w' := by
  have hu63 := Tryd.underlying63
  have e1 := or_sg (F := fD) (by unfold IsF; simp) (s := s) hs
  go_enter Tryd.func50, Tryd.ntmps50
  go_wp2_with fail
  refine (sign_D _).mono ?_
  rintro e w1 ⟨rfl, h1⟩
  have HB := Lib.hid (on (box _ _) h1)
  clear h1
  go_wp2_with fail
  go_ret
  exact ⟨by rw [show ((9223372036854775808 : Int)) = ((fD.sg : Nat) : Int) from rfl, e1]; rfl, HB.out⟩
theorem made_pos_D (s : Nat) (w : World) : Calls Tryd.prog 50 #[.agg #[.int .i64 64, .int .i64 53, .int .i64 (-1074), .int .u64 9221120237041090561], .bool false, .int .u64 s] w fun e w' => e = .returned (.int .u64 s) ∧ Below w.heap.size w w' := by
  go_enter Tryd.func50, Tryd.ntmps50
  go_wp2_with fail
  go_ret
  exact ⟨rfl, box _ _⟩
set_option maxRecDepth 100000 in
set_option maxHeartbeats 2000000 in
theorem rank_D (b : Nat) (h2 : b < 18446744073709551616) (w : World) : Calls Tryd.prog 52 #[.int .i64 64, .int .u64 b] w fun e w' => e = .returned (.tuple #[.agg #[.int .i64 64, .int .i64 53, .int .i64 (-1074), .int .u64 9221120237041090561], .int .i64 (rk fD b).1, .int .i64 (rk fD b).2]) ∧ Below w.heap.size w w' := by
  have hu63 := Tryd.underlying63
  have hrk := rk_cases fD b
  have hF : fD.sg = 9223372036854775808 ∧ fD.inf = 9218868437227405312 := ⟨rfl, rfl⟩
  rw [hF.1, hF.2] at hrk
  have hsl : b % 9223372036854775808 < 9223372036854775808 := Nat.mod_lt _ (by decide)
  have hml : b < 9223372036854775808 → b % 9223372036854775808 = b := Nat.mod_eq_of_lt
  go_enter Tryd.func52, Tryd.ntmps52
  go_wp2_with fail
  refine (take_D b h2 _).mono ?_
  rintro e w1 ⟨rfl, h1⟩
  have HR : Hid (Below w.heap.size w w1 ∧ w.heap.size < w1.heap.size ∧ w1.heap[w.heap.size]? = some (.cells #[.int .i64 0, .int .i64 0, .int .i64 0, .int .u64 0] 63 (0, 0))) :=
    Lib.hid ⟨on (box _ _) h1, Nat.lt_of_lt_of_le (by simp) h1.size, by rw [h1.block _ (by simp)]; exact heap_alloc_new _ _⟩
  clear h1
  generalize hs : b % 9223372036854775808 = s at hrk hsl hml ⊢
  have hbad : ¬ 2 * 9223372036854775808 ≤ b := by omega
  by_cases hi : 9218868437227405312 < s
  · have HV : Hid (rk fD b = (0, 6)) := by
      rcases hrk with h | h | h | h
      · exact absurd h.1 hbad
      · exact Lib.hid h.2.2
      · omega
      · have := hml h.1; omega
    have q : decide ((9218868437227405312 : Int) < (s : Int)) = true := decide_eq_true (by omega)
    generalize decide (9223372036854775808 ≤ b) = c
    clear hrk hbad hi hs hF hsl hml h2
    go_wp2_with fail
    refine (inf_D _).mono ?_
    rintro e w2 ⟨rfl, h1⟩
    have kb := blk_below (blk_new w1 (Obj.cells #[.int .i64 64, .int .i64 53, .int .i64 (-1074), .int .u64 9221120237041090561] 63)) h1
    have kz0 : w2.cell? ⟨w1.heap.size, 0, none⟩ = some (.int .i64 64) := (blk_cell kb 0).trans rfl
    have kz1 : w2.cell? ⟨w1.heap.size, 1, none⟩ = some (.int .i64 53) := (blk_cell kb 1).trans rfl
    have kz2 : w2.cell? ⟨w1.heap.size, 2, none⟩ = some (.int .i64 (-1074)) := (blk_cell kb 2).trans rfl
    have kz3 : w2.cell? ⟨w1.heap.size, 3, none⟩ = some (.int .u64 9221120237041090561) := (blk_cell kb 3).trans rfl
    have kr : w2.heap[w.heap.size]? = some (.cells #[.int .i64 0, .int .i64 0, .int .i64 0, .int .u64 0] 63 (0, 0)) := blk_below (blk_below HR.out.2.2 (box _ _)) h1
    have ky0 := (blk_cell kr 0).trans rfl
    have ky1 := (blk_cell kr 1).trans rfl
    have ky2 := (blk_cell kr 2).trans rfl
    have ky3 := (blk_cell kr 3).trans rfl
    have fy0 := blk_frozen kr 0
    have fy1 := blk_frozen kr 1
    have fy2 := blk_frozen kr 2
    have fy3 := blk_frozen kr 3
    have HK := Lib.hid (blk_set (blk_set (blk_set (blk_set kr 0 (.int .i64 64)) 1 (.int .i64 53)) 2 (.int .i64 (-1074))) 3 (.int .u64 9221120237041090561))
    have HB := Lib.hid (on HR.out.1 (on (box _ _) h1))
    clear kb kr h1
    go_wp2_with fail
    have k0 : ((((w2.setCell ⟨w.heap.size, 0, none⟩ (.int .i64 64)).setCell ⟨w.heap.size, 1, none⟩ (.int .i64 53)).setCell ⟨w.heap.size, 2, none⟩ (.int .i64 (-1074))).setCell ⟨w.heap.size, 3, none⟩ (.int .u64 9221120237041090561)).cell? ⟨w.heap.size, 0, none⟩ = some (.int .i64 64) := (blk_cell HK.out 0).trans rfl
    have k1 : ((((w2.setCell ⟨w.heap.size, 0, none⟩ (.int .i64 64)).setCell ⟨w.heap.size, 1, none⟩ (.int .i64 53)).setCell ⟨w.heap.size, 2, none⟩ (.int .i64 (-1074))).setCell ⟨w.heap.size, 3, none⟩ (.int .u64 9221120237041090561)).cell? ⟨w.heap.size, 1, none⟩ = some (.int .i64 53) := (blk_cell HK.out 1).trans rfl
    have k2 : ((((w2.setCell ⟨w.heap.size, 0, none⟩ (.int .i64 64)).setCell ⟨w.heap.size, 1, none⟩ (.int .i64 53)).setCell ⟨w.heap.size, 2, none⟩ (.int .i64 (-1074))).setCell ⟨w.heap.size, 3, none⟩ (.int .u64 9221120237041090561)).cell? ⟨w.heap.size, 2, none⟩ = some (.int .i64 (-1074)) := (blk_cell HK.out 2).trans rfl
    have k3 : ((((w2.setCell ⟨w.heap.size, 0, none⟩ (.int .i64 64)).setCell ⟨w.heap.size, 1, none⟩ (.int .i64 53)).setCell ⟨w.heap.size, 2, none⟩ (.int .i64 (-1074))).setCell ⟨w.heap.size, 3, none⟩ (.int .u64 9221120237041090561)).cell? ⟨w.heap.size, 3, none⟩ = some (.int .u64 9221120237041090561) := (blk_cell HK.out 3).trans rfl
    refine bodyPost_ret (v := .tuple #[.agg #[.int .i64 64, .int .i64 53, .int .i64 (-1074), .int .u64 9221120237041090561], .int .i64 0, .int .i64 6]) (by simp [results, Tryd.results52, go_sem, k0, k1, k2, k3]; try rfl) rfl ?_
    exact ⟨by rw [HV.out], (((HB.out.setCell (Nat.le_refl _) _).setCell (Nat.le_refl _) _).setCell (Nat.le_refl _) _).setCell (Nat.le_refl _) _⟩
  · have q : decide ((9218868437227405312 : Int) < (s : Int)) = false := decide_eq_false (by omega)
    by_cases hc : 9223372036854775808 ≤ b
    · have HV : Hid (rk fD b = (-(s : Int), 0)) := by
        rcases hrk with h | h | h | h
        · exact absurd h.1 hbad
        · omega
        · exact Lib.hid h.2.2.2
        · omega
      rw [decide_eq_true hc]
      have qw : IntKind.i64.wrap (s : Int) = s := IntWalk.i64_in _ (by omega)
      have qn : IntKind.i64.wrap (-(s : Int)) = -(s : Int) := IntWalk.i64_in _ (by omega)
      clear hrk hbad hi hc hs hF hsl hml h2
      go_wp2_with fail
      refine (inf_D _).mono ?_
      rintro e w2 ⟨rfl, h1⟩
      have kb := blk_below (blk_new w1 (Obj.cells #[.int .i64 64, .int .i64 53, .int .i64 (-1074), .int .u64 9221120237041090561] 63)) h1
      have kz0 : w2.cell? ⟨w1.heap.size, 0, none⟩ = some (.int .i64 64) := (blk_cell kb 0).trans rfl
      have kz1 : w2.cell? ⟨w1.heap.size, 1, none⟩ = some (.int .i64 53) := (blk_cell kb 1).trans rfl
      have kz2 : w2.cell? ⟨w1.heap.size, 2, none⟩ = some (.int .i64 (-1074)) := (blk_cell kb 2).trans rfl
      have kz3 : w2.cell? ⟨w1.heap.size, 3, none⟩ = some (.int .u64 9221120237041090561) := (blk_cell kb 3).trans rfl
      have kr : w2.heap[w.heap.size]? = some (.cells #[.int .i64 0, .int .i64 0, .int .i64 0, .int .u64 0] 63 (0, 0)) := blk_below (blk_below HR.out.2.2 (box _ _)) h1
      have ky0 := (blk_cell kr 0).trans rfl
      have ky1 := (blk_cell kr 1).trans rfl
      have ky2 := (blk_cell kr 2).trans rfl
      have ky3 := (blk_cell kr 3).trans rfl
      have fy0 := blk_frozen kr 0
      have fy1 := blk_frozen kr 1
      have fy2 := blk_frozen kr 2
      have fy3 := blk_frozen kr 3
      have HK := Lib.hid (blk_set (blk_set (blk_set (blk_set kr 0 (.int .i64 64)) 1 (.int .i64 53)) 2 (.int .i64 (-1074))) 3 (.int .u64 9221120237041090561))
      have HB := Lib.hid (on HR.out.1 (on (box _ _) h1))
      clear kb kr h1
      go_wp2_with fail
      have k0 : ((((w2.setCell ⟨w.heap.size, 0, none⟩ (.int .i64 64)).setCell ⟨w.heap.size, 1, none⟩ (.int .i64 53)).setCell ⟨w.heap.size, 2, none⟩ (.int .i64 (-1074))).setCell ⟨w.heap.size, 3, none⟩ (.int .u64 9221120237041090561)).cell? ⟨w.heap.size, 0, none⟩ = some (.int .i64 64) := (blk_cell HK.out 0).trans rfl
      have k1 : ((((w2.setCell ⟨w.heap.size, 0, none⟩ (.int .i64 64)).setCell ⟨w.heap.size, 1, none⟩ (.int .i64 53)).setCell ⟨w.heap.size, 2, none⟩ (.int .i64 (-1074))).setCell ⟨w.heap.size, 3, none⟩ (.int .u64 9221120237041090561)).cell? ⟨w.heap.size, 1, none⟩ = some (.int .i64 53) := (blk_cell HK.out 1).trans rfl
      have k2 : ((((w2.setCell ⟨w.heap.size, 0, none⟩ (.int .i64 64)).setCell ⟨w.heap.size, 1, none⟩ (.int .i64 53)).setCell ⟨w.heap.size, 2, none⟩ (.int .i64 (-1074))).setCell ⟨w.heap.size, 3, none⟩ (.int .u64 9221120237041090561)).cell? ⟨w.heap.size, 2, none⟩ = some (.int .i64 (-1074)) := (blk_cell HK.out 2).trans rfl
      have k3 : ((((w2.setCell ⟨w.heap.size, 0, none⟩ (.int .i64 64)).setCell ⟨w.heap.size, 1, none⟩ (.int .i64 53)).setCell ⟨w.heap.size, 2, none⟩ (.int .i64 (-1074))).setCell ⟨w.heap.size, 3, none⟩ (.int .u64 9221120237041090561)).cell? ⟨w.heap.size, 3, none⟩ = some (.int .u64 9221120237041090561) := (blk_cell HK.out 3).trans rfl
      refine bodyPost_ret (v := .tuple #[.agg #[.int .i64 64, .int .i64 53, .int .i64 (-1074), .int .u64 9221120237041090561], .int .i64 (-(s : Int)), .int .i64 0]) (by simp [results, Tryd.results52, go_sem, k0, k1, k2, k3]; try rfl) rfl ?_
      exact ⟨by rw [HV.out], (((HB.out.setCell (Nat.le_refl _) _).setCell (Nat.le_refl _) _).setCell (Nat.le_refl _) _).setCell (Nat.le_refl _) _⟩
    · have HV : Hid (rk fD b = ((s : Int), 0)) := by
        rcases hrk with h | h | h | h
        · exact absurd h.1 hbad
        · omega
        · omega
        · rw [hml h.1]; exact Lib.hid h.2.2
      rw [decide_eq_false hc]
      have qw : IntKind.i64.wrap (s : Int) = s := IntWalk.i64_in _ (by omega)
      clear hrk hbad hi hc hs hF hsl hml h2
      go_wp2_with fail
      refine (inf_D _).mono ?_
      rintro e w2 ⟨rfl, h1⟩
      have kb := blk_below (blk_new w1 (Obj.cells #[.int .i64 64, .int .i64 53, .int .i64 (-1074), .int .u64 9221120237041090561] 63)) h1
      have kz0 : w2.cell? ⟨w1.heap.size, 0, none⟩ = some (.int .i64 64) := (blk_cell kb 0).trans rfl
      have kz1 : w2.cell? ⟨w1.heap.size, 1, none⟩ = some (.int .i64 53) := (blk_cell kb 1).trans rfl
      have kz2 : w2.cell? ⟨w1.heap.size, 2, none⟩ = some (.int .i64 (-1074)) := (blk_cell kb 2).trans rfl
      have kz3 : w2.cell? ⟨w1.heap.size, 3, none⟩ = some (.int .u64 9221120237041090561) := (blk_cell kb 3).trans rfl
      have kr : w2.heap[w.heap.size]? = some (.cells #[.int .i64 0, .int .i64 0, .int .i64 0, .int .u64 0] 63 (0, 0)) := blk_below (blk_below HR.out.2.2 (box _ _)) h1
      have ky0 := (blk_cell kr 0).trans rfl
      have ky1 := (blk_cell kr 1).trans rfl
      have ky2 := (blk_cell kr 2).trans rfl
      have ky3 := (blk_cell kr 3).trans rfl
      have fy0 := blk_frozen kr 0
      have fy1 := blk_frozen kr 1
      have fy2 := blk_frozen kr 2
      have fy3 := blk_frozen kr 3
      have HK := Lib.hid (blk_set (blk_set (blk_set (blk_set kr 0 (.int .i64 64)) 1 (.int .i64 53)) 2 (.int .i64 (-1074))) 3 (.int .u64 9221120237041090561))
      have HB := Lib.hid (on HR.out.1 (on (box _ _) h1))
      clear kb kr h1
      go_wp2_with fail
      have k0 : ((((w2.setCell ⟨w.heap.size, 0, none⟩ (.int .i64 64)).setCell ⟨w.heap.size, 1, none⟩ (.int .i64 53)).setCell ⟨w.heap.size, 2, none⟩ (.int .i64 (-1074))).setCell ⟨w.heap.size, 3, none⟩ (.int .u64 9221120237041090561)).cell? ⟨w.heap.size, 0, none⟩ = some (.int .i64 64) := (blk_cell HK.out 0).trans rfl
      have k1 : ((((w2.setCell ⟨w.heap.size, 0, none⟩ (.int .i64 64)).setCell ⟨w.heap.size, 1, none⟩ (.int .i64 53)).setCell ⟨w.heap.size, 2, none⟩ (.int .i64 (-1074))).setCell ⟨w.heap.size, 3, none⟩ (.int .u64 9221120237041090561)).cell? ⟨w.heap.size, 1, none⟩ = some (.int .i64 53) := (blk_cell HK.out 1).trans rfl
      have k2 : ((((w2.setCell ⟨w.heap.size, 0, none⟩ (.int .i64 64)).setCell ⟨w.heap.size, 1, none⟩ (.int .i64 53)).setCell ⟨w.heap.size, 2, none⟩ (.int .i64 (-1074))).setCell ⟨w.heap.size, 3, none⟩ (.int .u64 9221120237041090561)).cell? ⟨w.heap.size, 2, none⟩ = some (.int .i64 (-1074)) := (blk_cell HK.out 2).trans rfl
      have k3 : ((((w2.setCell ⟨w.heap.size, 0, none⟩ (.int .i64 64)).setCell ⟨w.heap.size, 1, none⟩ (.int .i64 53)).setCell ⟨w.heap.size, 2, none⟩ (.int .i64 (-1074))).setCell ⟨w.heap.size, 3, none⟩ (.int .u64 9221120237041090561)).cell? ⟨w.heap.size, 3, none⟩ = some (.int .u64 9221120237041090561) := (blk_cell HK.out 3).trans rfl
      refine bodyPost_ret (v := .tuple #[.agg #[.int .i64 64, .int .i64 53, .int .i64 (-1074), .int .u64 9221120237041090561], .int .i64 (s : Int), .int .i64 0]) (by simp [results, Tryd.results52, go_sem, k0, k1, k2, k3]; try rfl) rfl ?_
      exact ⟨by rw [HV.out], (((HB.out.setCell (Nat.le_refl _) _).setCell (Nat.le_refl _) _).setCell (Nat.le_refl _) _).setCell (Nat.le_refl _) _⟩
end Go.Proofs.YthpnmkclboennaaDoor.BinR
