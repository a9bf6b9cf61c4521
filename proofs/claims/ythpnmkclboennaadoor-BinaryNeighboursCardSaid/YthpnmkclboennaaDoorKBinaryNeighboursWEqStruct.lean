/- Contracts of the program's Rank, Ranked, Next, Prev. Condition: words of the format (the refusals beside). Contracts of the reference's Of, Check and DocRank where they refuse. No condition. Lists of digits to the base 2^32 as natural numbers: value, the one list without noughts on top, sums of digits. Plain Lean; no program in sight. No condition. -/
import Derived.Test.YthpnmkclboennaaDoorKBinaryNeighboursBinN
import Derived.Test.YthpnmkclboennaaDoorKBinaryNeighboursWMore
import Derived.Laws.Bits64
import Derived.Laws.BitsLemmas
import Derived.Test.YthpnmkclboennaaDoorKBinaryNeighboursWWords
import Derived.Laws.StructEq
section
namespace Go.Proofs.YthpnmkclboennaaDoor.BinP
open Go.RowKit Go.Proofs.YthpnmkclboennaaDoor.BinLaw Go.Proofs.YthpnmkclboennaaDoor.BinA Go.Proofs.YthpnmkclboennaaDoor.BinT Go.Proofs.YthpnmkclboennaaDoor.BinR Go.Proofs.YthpnmkclboennaaDoor.BinN
def rankF (f : Int) (b : Nat) : Int × Int := onF f (0, 1) fun F => rk F b
theorem rank_any (f : Int) (b : Nat) (hb : b < 18446744073709551616) (w : World) : Calls Tryd.prog 52 #[.int .i64 f, .int .u64 b] w fun e w' => (∃ s0 s1 s2 s3 : Int, e = .returned (.tuple #[.agg #[.int .i64 s0, .int .i64 s1, .int .i64 s2, .int .u64 s3], .int .i64 (rankF f b).1, .int .i64 (rankF f b).2])) ∧ Below w.heap.size w w' := by
  by_cases h32 : f = 32
  · subst h32
    unfold rankF
    rw [onF_32]
    by_cases c : b < 4294967296
    · exact (rank_S b c w).mono fun _ _ h => ⟨⟨_, _, _, _, h.1⟩, h.2⟩
    · have e : rk fS b = (0, 2) := by unfold rk; exact if_pos (by show 2 * 2147483648 ≤ b; omega)
      rw [e]
      exact (rank_bad b (by omega) w).mono fun _ _ h => ⟨⟨_, _, _, _, h.1⟩, h.2⟩
  by_cases h64 : f = 64
  · subst h64
    unfold rankF
    rw [onF_64]
    exact (rank_D b hb w).mono fun _ _ h => ⟨⟨_, _, _, _, h.1⟩, h.2⟩
  · unfold rankF
    rw [onF_no _ _ h32 h64]
    exact (rank_no f b h32 h64 w).mono fun _ _ h => ⟨⟨_, _, _, _, h.1⟩, h.2⟩
theorem Rank_any (f : Int) (b : Nat) (hb : b < 18446744073709551616) (w : World) : Calls Tryd.prog 22 #[.int .i64 f, .int .u64 b] w fun e w' => e = .returned (.tuple #[.int .i64 (rankF f b).1, .int .i64 (rankF f b).2]) ∧ Below w.heap.size w w' := by
  go_enter Tryd.func22, Tryd.ntmps22
  go_wp2_with fail
  refine (rank_any f b hb _).mono ?_
  rintro e w1 ⟨⟨s0, s1, s2, s3, rfl⟩, h1⟩
  generalize hn : (rankF f b).1 = n
  generalize he : (rankF f b).2 = er
  go_wp2_with fail
  go_ret2
  exact ⟨by subst hn; subst he; rfl, on h1 (box _ _)⟩
end Go.Proofs.YthpnmkclboennaaDoor.BinP
end
section
namespace Go.Proofs.YthpnmkclboennaaDoor.BinO2
open Go.RowKit Go.Proofs.YthpnmkclboennaaDoor.BinLaw Go.Proofs.YthpnmkclboennaaDoor.BinA Go.Proofs.YthpnmkclboennaaDoor.BinP
def Fm (f : Int) (F : Fmt) : Prop := (f = 32 ∧ F = fS) ∨ (f = 64 ∧ F = fD)
theorem Fm.sz {f : Int} {F : Fmt} (h : Fm f F) : 0 < F.inf ∧ F.inf < F.sg ∧ F.sg ≤ 9223372036854775808 ∧ F.inf < 9223372036854775807 := by
  rcases h with ⟨_, rfl⟩ | ⟨_, rfl⟩ <;> exact ⟨by decide, by decide, by decide, by decide⟩
theorem Fm.on {f : Int} {F : Fmt} (h : Fm f F) {A : Type} (z : A) (g : Fmt → A) : onF f z g = g F := by
  rcases h with ⟨rfl, rfl⟩ | ⟨rfl, rfl⟩
  · exact onF_32 _ _
  · exact onF_64 _ _
theorem fm_cases (f : Int) : (∃ F, Fm f F) ∨ (f ≠ 32 ∧ f ≠ 64) := by
  by_cases h : f = 32
  · exact .inl ⟨fS, .inl ⟨h, rfl⟩⟩
  by_cases h' : f = 64
  · exact .inl ⟨fD, .inr ⟨h', rfl⟩⟩
  · exact .inr ⟨h, h'⟩
end Go.Proofs.YthpnmkclboennaaDoor.BinO2
end
section
namespace Go.Proofs.YthpnmkclboennaaDoor.Num
open Go.RowKit Go.Proofs.YthpnmkclboennaaDoorW.PrintWords Go.Proofs.YthpnmkclboennaaDoorW.PrintMore
def B : Nat := 4294967296
theorem w64 {x : Int} (h0 : -9223372036854775808 ≤ x) (h1 : x < 9223372036854775808) : wrap64 x = x := by unfold wrap64; omega
theorem wu64 {x : Int} (h0 : 0 ≤ x) (h1 : x < 18446744073709551616) : IntKind.u64.wrap x = x := by rw [IntKind.wrap_u64]; omega
def dg (n : Nat) : List Int := if _h : n = 0 then [] else ((n % B : Nat) : Int) :: dg (n / B)
termination_by n
decreasing_by exact Nat.div_lt_self (by omega) (by decide)
end Go.Proofs.YthpnmkclboennaaDoor.Num
end
section
namespace Go.Proofs.YthpnmkclboennaaDoorW.PrintWords
open Go.RowKit
section
variable {P : Program} {d : Nat} {xs ys : Array Value} {f : Field} {fs : List Field} {a b : Value} {r s : Bool} {w : World}
theorem eqf_last (hn : (f.name == "_") = false) (ha : (part f.type xs f.offset).run P w = .ok a w) (hb : (part f.type ys f.offset).run P w = .ok b w) (he : (Op.equalIn d f.type a b).run P w = .ok r w) : (Op.eqFields d xs ys [f]).run P w = .ok r w := by
  have hn' : f.name ≠ "_" := by simpa using hn
  simp only [Op.eqFields, if_pos hn', Sem.run_bind, ha, hb, he, Result.andThen_ok]
  cases r <;> simp
theorem eqf_cons (hn : (f.name == "_") = false) (ha : (part f.type xs f.offset).run P w = .ok a w) (hb : (part f.type ys f.offset).run P w = .ok b w) (he : (Op.equalIn d f.type a b).run P w = .ok r w) (hr : (Op.eqFields d xs ys fs).run P w = .ok s w) : (Op.eqFields d xs ys (f :: fs)).run P w = .ok (r && s) w := by
  have hn' : f.name ≠ "_" := by simpa using hn
  rw [Op.eqFields]
  simp only [if_pos hn', Sem.run_bind, ha, hb, he, Result.andThen_ok]
  cases r
  · simp
  · simpa using hr
theorem eqA_of {t : TypeId} {fs : Array Field} (hu : P.underlying t = some (.struct fs)) (hp : P.stoodInHeld t = false) (h : (Op.eqFields d xs ys fs.toList).run P w = .ok r w) : (Op.equalIn (d + 1) t (.agg xs) (.agg ys)).run P w = .ok r w := by
  have hf : P.fieldsOf t = fs := by simp [Program.fieldsOf, hu]
  rw [run_equalIn_struct (P := P) w d t xs ys (by rw [hf]; exact hu) hp, hf]
  exact h
end
end Go.Proofs.YthpnmkclboennaaDoorW.PrintWords
end
