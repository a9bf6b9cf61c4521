/- Contracts of the reference's Of, Check and DocRank where they refuse. No condition. -/
import Derived.Test.YthpnmkclboennaaDoorKBinaryStepsBinQ
namespace Go.Proofs.YthpnmkclboennaaDoor.BinO2
open Go.RowKit Go.Proofs.YthpnmkclboennaaDoor.BinLaw Go.Proofs.YthpnmkclboennaaDoor.BinA Go.Proofs.YthpnmkclboennaaDoor.BinP Go.Proofs.YthpnmkclboennaaDoor.BinO
def Fm (f : Int) (F : Fmt) : Prop := (f = 32 ∧ F = fS) ∨ (f = 64 ∧ F = fD)
theorem Fm.sz {f : Int} {F : Fmt} (h : Fm f F) : 0 < F.inf ∧ F.inf < F.sg ∧ F.sg ≤ 9223372036854775808 ∧ F.inf < 9223372036854775807 := by
  rcases h with ⟨_, rfl⟩ | ⟨_, rfl⟩ <;> exact ⟨by decide, by decide, by decide, by decide⟩
theorem Fm.on {f : Int} {F : Fmt} (h : Fm f F) {A : Type} (z : A) (g : Fmt → A) : onF f z g = g F := by
  rcases h with ⟨rfl, rfl⟩ | ⟨rfl, rfl⟩
  · exact onF_32 _ _
  · exact onF_64 _ _
theorem fm_cases (f : Int) : (∃ F, Fm f F) ∨ (f ≠ 32 ∧ f ≠ 64) := by
  by_cases h : f = 32
  · exact .inl ⟨fS, .inl ⟨h, rfl⟩⟩
  by_cases h' : f = 64
  · exact .inl ⟨fD, .inr ⟨h', rfl⟩⟩
  · exact .inr ⟨h, h'⟩
theorem Of_F {f : Int} {F : Fmt} (h : Fm f F) (w : World) : Calls Tryd.prog 40 #[.int .i64 f] w fun e w' => (∃ g : Int, e = .returned (.tuple #[.agg #[.int .u64 (F.sg : Nat), .int .i64 (F.man : Nat), .int .i64 F.low, .int .i64 g, .int .u64 (F.inf : Nat), .int .u64 (F.qt : Nat)], .bool true])) ∧ Below w.heap.size w w' := by
  rcases h with ⟨rfl, rfl⟩ | ⟨rfl, rfl⟩
  · exact Of_S w
  · exact Of_D w
theorem Of_no (f : Int) (g1 : f ≠ 32) (g2 : f ≠ 64) (w : World) : Calls Tryd.prog 40 #[.int .i64 f] w fun e w' => e = .returned (.tuple #[.agg #[.int .u64 0, .int .i64 0, .int .i64 0, .int .i64 0, .int .u64 0, .int .u64 0], .bool false]) ∧ Below w.heap.size w w' := by
  have hu71 := Tryd.underlying71
  have e1 : ((f : Int) == 32) = false := by simpa using g1
  have e2 : ((f : Int) == 64) = false := by simpa using g2
  go_enter Tryd.func40, Tryd.ntmps40
  go_wp2_with fail
  go_returns
  exact ⟨rfl, box _ _⟩
theorem Check_no (f : Int) (b : Nat) (g1 : f ≠ 32) (g2 : f ≠ 64) (w : World) : Calls Tryd.prog 70 #[.int .i64 f, .int .u64 b] w fun e w' => e = .returned (.int .i64 1) ∧ Below w.heap.size w w' := by
  have hu71 := Tryd.underlying71
  go_enter Tryd.func70, Tryd.ntmps70
  go_wp2_with fail
  refine (Of_no f g1 g2 _).mono ?_
  rintro e w1 ⟨rfl, h1⟩
  go_wp2_with fail
  go_ret
  exact ⟨rfl, on h1 (box _ _)⟩
set_option maxRecDepth 100000 in
theorem Check_badF {f : Int} {F : Fmt} (h : Fm f F) (b : Nat) (hb : b < 18446744073709551616) (h2 : 2 * F.sg ≤ b) (w : World) : Calls Tryd.prog 70 #[.int .i64 f, .int .u64 b] w fun e w' => e = .returned (.int .i64 2) ∧ Below w.heap.size w w' := by
  have hu71 := Tryd.underlying71
  have HO := Lib.hid (fun w => Of_F h w)
  generalize F.sg = S at *
  generalize F.inf = I at *
  obtain ⟨c, hc⟩ : ∃ c : Nat, (b : Int) / 2 = (c : Int) := ⟨b / 2, by omega⟩
  have q1 : decide (S ≤ c) = true := decide_eq_true (by omega)
  have q2 : IntKind.u64.wrap (c : Int) = (c : Int) := IntWalk.u64_in _ (by omega)
  clear h2 h hb
  go_enter Tryd.func70, Tryd.ntmps70
  go_wp2_with fail
  refine (HO.out _).mono ?_
  rintro e w1 ⟨⟨g, rfl⟩, h1⟩
  go_wp2_with fail
  go_ret
  exact ⟨rfl, on h1 (box _ _)⟩
theorem Check_bad (b : Nat) (hb : b < 18446744073709551616) (h2 : 4294967296 ≤ b) (w : World) : Calls Tryd.prog 70 #[.int .i64 32, .int .u64 b] w fun e w' => e = .returned (.int .i64 2) ∧ Below w.heap.size w w' :=
  Check_badF (F := fS) (.inl ⟨rfl, rfl⟩) b hb (by show 2 * 2147483648 ≤ b; omega) w
set_option maxRecDepth 100000 in
theorem DocRank_no (f : Int) (b : Nat) (g1 : f ≠ 32) (g2 : f ≠ 64) (w : World) : Calls Tryd.prog 87 #[.int .i64 f, .int .u64 b] w fun e w' => e = .returned (.tuple #[.int .i64 0, .int .i64 1]) ∧ Below w.heap.size w w' := by
  go_enter Tryd.func87, Tryd.ntmps87
  go_wp2_with fail
  refine (Check_no f b g1 g2 _).mono ?_
  rintro e w1 ⟨rfl, h1⟩
  go_wp2_with fail
  go_ret2
  exact ⟨rfl, h1⟩
set_option maxRecDepth 100000 in
theorem DocRank_bad (b : Nat) (hb : b < 18446744073709551616) (h2 : 4294967296 ≤ b) (w : World) : Calls Tryd.prog 87 #[.int .i64 32, .int .u64 b] w fun e w' => e = .returned (.tuple #[.int .i64 0, .int .i64 2]) ∧ Below w.heap.size w w' := by
  go_enter Tryd.func87, Tryd.ntmps87
  go_wp2_with fail
  refine (Check_bad b hb h2 _).mono ?_
  rintro e w1 ⟨rfl, h1⟩
  go_wp2_with fail
  go_ret2
  exact ⟨rfl, h1⟩
end Go.Proofs.YthpnmkclboennaaDoor.BinO2
