/- Contracts in one row: the program's Ranked; the reference's DocRank, DocRanked, DocNext, DocPrev. Conditions: words below 2^64, ranks of an int. The walk of the law BinarySteps: steps, and the plays of Next, Prev, Rank, Ranked. Conditions: words of the arguments' kinds. -/
import Derived.Test.YthpnmkclboennaaDoorKBinaryNeighboursWEqStruct
import Derived.Test.YthpnmkclboennaaDoorKBinaryNeighboursBinK
import Derived.Test.YthpnmkclboennaaDoorKBinaryNeighboursBinRow
section
namespace Go.Proofs.YthpnmkclboennaaDoor.BinU
open Go.RowKit Go.Proofs.YthpnmkclboennaaDoorW.PrintWords Go.Proofs.YthpnmkclboennaaDoorW.PrintMore Go.Proofs.YthpnmkclboennaaDoorW.PrintLast Go.Proofs.YthpnmkclboennaaDoor.BinLaw Go.Proofs.YthpnmkclboennaaDoor.BinA Go.Proofs.YthpnmkclboennaaDoor.BinP Go.Proofs.YthpnmkclboennaaDoor.BinO2 Go.Proofs.YthpnmkclboennaaDoor.BinK Go.Proofs.YthpnmkclboennaaDoor.BinY
def rankedF (f n : Int) : Nat × Int := onF f (0, 1) fun F => rkd F n
theorem rkd_cases (F : Fmt) (n : Int) : ((F.inf : Int) < n ∧ rkd F n = (0, 1)) ∨ (n < -(F.inf : Int) ∧ rkd F n = (0, 1)) ∨
    (∃ s : Nat, n = -(s : Int) ∧ 0 < s ∧ s ≤ F.inf ∧ rkd F n = (F.sg + s, 0)) ∨ ∃ s : Nat, n = s ∧ s ≤ F.inf ∧ rkd F n = (s, 0) := by
  unfold rkd mde
  by_cases h1 : (F.inf : Int) < n
  · exact .inl ⟨h1, if_pos (.inl h1)⟩
  by_cases h2 : n < -(F.inf : Int)
  · exact .inr (.inl ⟨h2, if_pos (.inr h2)⟩)
  have hno : ¬ (n > F.inf ∨ n < -(F.inf : Int)) := by omega
  by_cases h3 : n < 0
  · exact .inr (.inr (.inl ⟨(-n).toNat, by omega, by omega, by omega, by rw [if_neg hno, if_pos h3]⟩))
  · exact .inr (.inr (.inr ⟨n.toNat, by omega, by omega, by rw [if_neg hno, if_neg h3]⟩))
theorem Ranked_any (f n : Int) (w : World) : Calls Tryd.prog 65 #[.int .i64 f, .int .i64 n] w fun e w' => e = .returned (.tuple #[.int .u64 (rankedF f n).1, .int .i64 (rankedF f n).2]) ∧ Below w.heap.size w w' := by
  rcases fm_cases f with ⟨F, h⟩ | ⟨h, h'⟩
  · unfold rankedF
    rw [h.on]
    rcases h with ⟨rfl, rfl⟩ | ⟨rfl, rfl⟩
    · rcases rkd_cases fS n with ⟨h1, h⟩ | ⟨h1, h⟩ | ⟨s, rfl, h1, h2, h⟩ | ⟨s, rfl, h1, h⟩ <;> rw [h]
      · exact ranked_big_S n h1 w
      · exact ranked_small_S n h1 w
      · exact ranked_neg_S s h1 h2 w
      · exact ranked_pos_S s h1 w
    · rcases rkd_cases fD n with ⟨h1, h⟩ | ⟨h1, h⟩ | ⟨s, rfl, h1, h2, h⟩ | ⟨s, rfl, h1, h⟩ <;> rw [h]
      · exact ranked_big_D n h1 w
      · exact ranked_small_D n h1 w
      · exact ranked_neg_D s h1 h2 w
      · exact ranked_pos_D s h1 w
  · unfold rankedF
    rw [onF_no _ _ h h']
    exact ranked_no f n h h' w
end Go.Proofs.YthpnmkclboennaaDoor.BinU
end
section
namespace Go.Proofs.YthpnmkclboennaaDoor.BinarySteps0W
open Go.RowKit Go.Proofs.YthpnmkclboennaaDoorW.PrintWords Go.Proofs.YthpnmkclboennaaDoorW.PrintMore Go.Proofs.YthpnmkclboennaaDoorW.PrintLast Go.Proofs.YthpnmkclboennaaDoor.BinLaw Go.Proofs.YthpnmkclboennaaDoor.BinA Go.Proofs.YthpnmkclboennaaDoor.BinP Go.Proofs.YthpnmkclboennaaDoor.BinU Go.Proofs.YthpnmkclboennaaDoor.BinY Go.Proofs.YthpnmkclboennaaDoor.BinAll
theorem next_at (w : World) : Calls Tryd.prog 32 #[.int .i64 64, .int .u64 9223372036854775808] w fun e w' => e = .returned (.tuple #[.int .u64 1, .int .i64 0]) ∧ Below w.heap.size w w' := by
  have h := BinY.Next_any 64 9223372036854775808 (by decide) w
  have e : nextF 64 9223372036854775808 = (1, 0) := by unfold nextF; rw [onF_64]; decide +kernel
  rw [e] at h
  exact h
theorem prev_at (w : World) : Calls Tryd.prog 33 #[.int .i64 32, .int .u64 1] w fun e w' => e = .returned (.tuple #[.int .u64 0, .int .i64 0]) ∧ Below w.heap.size w w' := by
  have h := BinY.Prev_any 32 1 (by decide) w
  have e : prevF 32 1 = (0, 0) := by unfold prevF; rw [onF_32]; decide +kernel
  rw [e] at h
  exact h
theorem rank_at (w : World) : Calls Tryd.prog 22 #[.int .i64 32, .int .u64 2147483653] w fun e w' => e = .returned (.tuple #[.int .i64 (-5), .int .i64 0]) ∧ Below w.heap.size w w' := by
  have h := BinP.Rank_any 32 2147483653 (by decide) w
  have e : rankF 32 2147483653 = (-5, 0) := by unfold rankF; rw [onF_32]; decide +kernel
  rw [e] at h
  exact h
theorem ranked_at (w : World) : Calls Tryd.prog 65 #[.int .i64 64, .int .i64 77] w fun e w' => e = .returned (.tuple #[.int .u64 77, .int .i64 0]) ∧ Below w.heap.size w w' := by
  have h := BinU.Ranked_any 64 77 w
  have e : rankedF 64 77 = (77, 0) := by unfold rankedF; rw [onF_64]; decide +kernel
  rw [e] at h
  exact h
theorem steps_any (w : World) : Calls Tryd.prog 30 #[] w (OnW w) := by
  go_enter Tryd.func30, Tryd.ntmps30
  go_wp2_with fail
  refine (next_at _).mono ?_
  rintro e w1 ⟨rfl, h1⟩
  go_wp2_with fail
  refine (prev_at _).mono ?_
  rintro e w2 ⟨rfl, h2⟩
  go_wp2_with fail
  refine (rank_at _).mono ?_
  rintro e w3 ⟨rfl, h3⟩
  go_wp2_with fail
  refine (ranked_at _).mono ?_
  rintro e w4 ⟨rfl, h4⟩
  go_wp2_with fail
  go_ret
  exact ⟨rfl, on h1 (on h2 (on h3 h4))⟩
end Go.Proofs.YthpnmkclboennaaDoor.BinarySteps0W
end
