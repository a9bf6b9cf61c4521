/- Contracts in one row: the program's Ranked; the reference's DocRank, DocRanked, DocNext, DocPrev. Conditions: words below 2^64, ranks of an int. -/
import Derived.Test.YthpnmkclboennaaDoorKBinaryStepsBinO2
import Derived.Test.YthpnmkclboennaaDoorKBinaryStepsBinK
import Derived.Test.YthpnmkclboennaaDoorKBinaryStepsBinQ
namespace Go.Proofs.YthpnmkclboennaaDoor.BinU
open Go.RowKit Go.Proofs.YthpnmkclboennaaDoorW.PrintWords Go.Proofs.YthpnmkclboennaaDoorW.PrintLast Go.Proofs.YthpnmkclboennaaDoor.BinLaw Go.Proofs.YthpnmkclboennaaDoor.BinA Go.Proofs.YthpnmkclboennaaDoor.BinP Go.Proofs.YthpnmkclboennaaDoor.BinO Go.Proofs.YthpnmkclboennaaDoor.BinO2 Go.Proofs.YthpnmkclboennaaDoor.BinQ Go.Proofs.YthpnmkclboennaaDoor.BinK Go.Proofs.YthpnmkclboennaaDoor.BinY
theorem DocRank_any (f : Int) (b : Nat) (hb : b < 18446744073709551616) (w : World) : Calls Tryd.prog 87 #[.int .i64 f, .int .u64 b] w fun e w' => e = .returned (.tuple #[.int .i64 (rankF f b).1, .int .i64 (rankF f b).2]) ∧ Below w.heap.size w w' := by
  rcases fm_cases f with ⟨F, h⟩ | ⟨h, h'⟩
  · unfold rankF
    rw [h.on]
    rcases h with ⟨rfl, rfl⟩ | ⟨rfl, rfl⟩
    · rcases rk_cases fS b with ⟨h1, h⟩ | ⟨h1, h2, h⟩ | ⟨h1, h2, h3, h⟩ | ⟨h1, h2, h⟩ <;> rw [h]
      · exact DocRank_bad b hb h1 w
      · exact DocRank_err_S b _ h1 rfl h2 w
      · exact DocRank_neg_S b _ h1 h3 rfl h2 w
      · exact DocRank_pos_S b h1 h2 w
    · rcases rk_cases fD b with ⟨h1, h⟩ | ⟨h1, h2, h⟩ | ⟨h1, h2, h3, h⟩ | ⟨h1, h2, h⟩ <;> rw [h]
      · exfalso; have : 18446744073709551616 ≤ b := h1; omega
      · exact DocRank_err_D b _ h1 rfl h2 w
      · exact DocRank_neg_D b _ h1 h3 rfl h2 w
      · exact DocRank_pos_D b h1 h2 w
  · unfold rankF
    rw [onF_no _ _ h h']
    exact DocRank_no f b h h' w
def rankedF (f n : Int) : Nat × Int := onF f (0, 1) fun F => rkd F n
theorem rkd_cases (F : Fmt) (n : Int) : ((F.inf : Int) < n ∧ rkd F n = (0, 1)) ∨ (n < -(F.inf : Int) ∧ rkd F n = (0, 1)) ∨
    (∃ s : Nat, n = -(s : Int) ∧ 0 < s ∧ s ≤ F.inf ∧ rkd F n = (F.sg + s, 0)) ∨ ∃ s : Nat, n = s ∧ s ≤ F.inf ∧ rkd F n = (s, 0) := by
  unfold rkd mde
  by_cases h1 : (F.inf : Int) < n
  · exact .inl ⟨h1, if_pos (.inl h1)⟩
  by_cases h2 : n < -(F.inf : Int)
  · exact .inr (.inl ⟨h2, if_pos (.inr h2)⟩)
  have hno : ¬ (n > F.inf ∨ n < -(F.inf : Int)) := by omega
  by_cases h3 : n < 0
  · exact .inr (.inr (.inl ⟨(-n).toNat, by omega, by omega, by omega, by rw [if_neg hno, if_pos h3]⟩))
  · exact .inr (.inr (.inr ⟨n.toNat, by omega, by omega, by rw [if_neg hno, if_neg h3]⟩))
theorem Ranked_any (f n : Int) (w : World) : Calls Tryd.prog 65 #[.int .i64 f, .int .i64 n] w fun e w' => e = .returned (.tuple #[.int .u64 (rankedF f n).1, .int .i64 (rankedF f n).2]) ∧ Below w.heap.size w w' := by
  rcases fm_cases f with ⟨F, h⟩ | ⟨h, h'⟩
  · unfold rankedF
    rw [h.on]
    rcases h with ⟨rfl, rfl⟩ | ⟨rfl, rfl⟩
    · rcases rkd_cases fS n with ⟨h1, h⟩ | ⟨h1, h⟩ | ⟨s, rfl, h1, h2, h⟩ | ⟨s, rfl, h1, h⟩ <;> rw [h]
      · exact ranked_big_S n h1 w
      · exact ranked_small_S n h1 w
      · exact ranked_neg_S s h1 h2 w
      · exact ranked_pos_S s h1 w
    · rcases rkd_cases fD n with ⟨h1, h⟩ | ⟨h1, h⟩ | ⟨s, rfl, h1, h2, h⟩ | ⟨s, rfl, h1, h⟩ <;> rw [h]
      · exact ranked_big_D n h1 w
      · exact ranked_small_D n h1 w
      · exact ranked_neg_D s h1 h2 w
      · exact ranked_pos_D s h1 w
  · unfold rankedF
    rw [onF_no _ _ h h']
    exact ranked_no f n h h' w
end Go.Proofs.YthpnmkclboennaaDoor.BinU
