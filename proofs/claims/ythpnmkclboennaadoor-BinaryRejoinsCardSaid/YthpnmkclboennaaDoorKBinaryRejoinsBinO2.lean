/- Contracts of the reference's Of, Check and DocRank where they refuse. No condition. -/
import Derived.Test.YthpnmkclboennaaDoorKBinaryRejoinsBinN
namespace Go.Proofs.YthpnmkclboennaaDoor.BinO2
open Go.RowKit Go.Proofs.YthpnmkclboennaaDoor.BinLaw Go.Proofs.YthpnmkclboennaaDoor.BinA
def Fm (f : Int) (F : Fmt) : Prop := (f = 32 ∧ F = fS) ∨ (f = 64 ∧ F = fD)
theorem Fm.sz {f : Int} {F : Fmt} (h : Fm f F) : 0 < F.inf ∧ F.inf < F.sg ∧ F.sg ≤ 9223372036854775808 ∧ F.inf < 9223372036854775807 := by
  rcases h with ⟨_, rfl⟩ | ⟨_, rfl⟩ <;> exact ⟨by decide, by decide, by decide, by decide⟩
theorem Fm.on {f : Int} {F : Fmt} (h : Fm f F) {A : Type} (z : A) (g : Fmt → A) : onF f z g = g F := by
  rcases h with ⟨rfl, rfl⟩ | ⟨rfl, rfl⟩
  · exact onF_32 _ _
  · exact onF_64 _ _
theorem fm_cases (f : Int) : (∃ F, Fm f F) ∨ (f ≠ 32 ∧ f ≠ 64) := by
  by_cases h : f = 32
  · exact .inl ⟨fS, .inl ⟨h, rfl⟩⟩
  by_cases h' : f = 64
  · exact .inl ⟨fD, .inr ⟨h', rfl⟩⟩
  · exact .inr ⟨h, h'⟩
end Go.Proofs.YthpnmkclboennaaDoor.BinO2
