/- Contracts of the reference's Of and Check. Condition: words below 2^64. -/
import Derived.Test.YthpnmkclboennaaDoorKBinaryStepsBinP
namespace Go.Proofs.YthpnmkclboennaaDoor.BinO
open Go.RowKit Go.Proofs.YthpnmkclboennaaDoor.BinLaw Go.Proofs.YthpnmkclboennaaDoor.BinA Go.Proofs.YthpnmkclboennaaDoor.BinP
theorem Of_S (w : World) : Calls Tryd.prog 40 #[.int .i64 32] w fun e w' => (∃ g : Int, e = .returned (.tuple #[.agg #[.int .u64 2147483648, .int .i64 24, .int .i64 (-149), .int .i64 g, .int .u64 2139095040, .int .u64 2143289345], .bool true])) ∧ Below w.heap.size w w' := by
  have hu71 := Tryd.underlying71
  go_enter Tryd.func40, Tryd.ntmps40
  go_wp2_with fail
  go_returns
  exact ⟨⟨_, rfl⟩, box _ _⟩
theorem Check_ok_S (b : Nat) (h2 : b < 4294967296) (w : World) : Calls Tryd.prog 70 #[.int .i64 32, .int .u64 b] w fun e w' => e = .returned (.int .i64 0) ∧ Below w.heap.size w w' := by
  have hu71 := Tryd.underlying71
  have q1 : decide ((2147483648 : Int) ≤ (b : Int) / 2) = false := decide_eq_false (by omega)
  go_enter Tryd.func70, Tryd.ntmps70
  go_wp2_with fail
  refine (Of_S _).mono ?_
  rintro e w1 ⟨⟨g, rfl⟩, h1⟩
  go_wp2_with fail
  go_ret
  exact ⟨rfl, on h1 (box _ _)⟩
theorem Of_D (w : World) : Calls Tryd.prog 40 #[.int .i64 64] w fun e w' => (∃ g : Int, e = .returned (.tuple #[.agg #[.int .u64 9223372036854775808, .int .i64 53, .int .i64 (-1074), .int .i64 g, .int .u64 9218868437227405312, .int .u64 9221120237041090561], .bool true])) ∧ Below w.heap.size w w' := by
  have hu71 := Tryd.underlying71
  go_enter Tryd.func40, Tryd.ntmps40
  go_wp2_with fail
  go_returns
  exact ⟨⟨_, rfl⟩, box _ _⟩
theorem Check_ok_D (b : Nat) (h2 : b < 18446744073709551616) (w : World) : Calls Tryd.prog 70 #[.int .i64 64, .int .u64 b] w fun e w' => e = .returned (.int .i64 0) ∧ Below w.heap.size w w' := by
  have hu71 := Tryd.underlying71
  have q1 : decide ((9223372036854775808 : Int) ≤ (b : Int) / 2) = false := decide_eq_false (by omega)
  go_enter Tryd.func70, Tryd.ntmps70
  go_wp2_with fail
  refine (Of_D _).mono ?_
  rintro e w1 ⟨⟨g, rfl⟩, h1⟩
  go_wp2_with fail
  go_ret
  exact ⟨rfl, on h1 (box _ _)⟩
end Go.Proofs.YthpnmkclboennaaDoor.BinO
