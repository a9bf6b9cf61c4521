/- Contracts of the program's Rank, Ranked, Next, Prev. Condition: words of the format (the refusals beside). -/
import Derived.Test.YthpnmkclboennaaDoorKBinaryStepsBinN
namespace Go.Proofs.YthpnmkclboennaaDoor.BinP
open Go.RowKit Go.Proofs.YthpnmkclboennaaDoor.BinLaw Go.Proofs.YthpnmkclboennaaDoor.BinA Go.Proofs.YthpnmkclboennaaDoor.BinT Go.Proofs.YthpnmkclboennaaDoor.BinR Go.Proofs.YthpnmkclboennaaDoor.BinN
def rankF (f : Int) (b : Nat) : Int × Int := onF f (0, 1) fun F => rk F b
theorem rank_any (f : Int) (b : Nat) (hb : b < 18446744073709551616) (w : World) : Calls Tryd.prog 52 #[.int .i64 f, .int .u64 b] w fun e w' => (∃ s0 s1 s2 s3 : Int, e = .returned (.tuple #[.agg #[.int .i64 s0, .int .i64 s1, .int .i64 s2, .int .u64 s3], .int .i64 (rankF f b).1, .int .i64 (rankF f b).2])) ∧ Below w.heap.size w w' := by
  by_cases h32 : f = 32
  · subst h32
    unfold rankF
    rw [onF_32]
    by_cases c : b < 4294967296
    · exact (rank_S b c w).mono fun _ _ h => ⟨⟨_, _, _, _, h.1⟩, h.2⟩
    · have e : rk fS b = (0, 2) := by unfold rk; exact if_pos (by show 2 * 2147483648 ≤ b; omega)
      rw [e]
      exact (rank_bad b (by omega) w).mono fun _ _ h => ⟨⟨_, _, _, _, h.1⟩, h.2⟩
  by_cases h64 : f = 64
  · subst h64
    unfold rankF
    rw [onF_64]
    exact (rank_D b hb w).mono fun _ _ h => ⟨⟨_, _, _, _, h.1⟩, h.2⟩
  · unfold rankF
    rw [onF_no _ _ h32 h64]
    exact (rank_no f b h32 h64 w).mono fun _ _ h => ⟨⟨_, _, _, _, h.1⟩, h.2⟩
theorem Rank_any (f : Int) (b : Nat) (hb : b < 18446744073709551616) (w : World) : Calls Tryd.prog 22 #[.int .i64 f, .int .u64 b] w fun e w' => e = .returned (.tuple #[.int .i64 (rankF f b).1, .int .i64 (rankF f b).2]) ∧ Below w.heap.size w w' := by
  go_enter Tryd.func22, Tryd.ntmps22
  go_wp2_with fail
  refine (rank_any f b hb _).mono ?_
  rintro e w1 ⟨⟨s0, s1, s2, s3, rfl⟩, h1⟩
  generalize hn : (rankF f b).1 = n
  generalize he : (rankF f b).2 = er
  go_wp2_with fail
  go_ret2
  exact ⟨by subst hn; subst he; rfl, on h1 (box _ _)⟩
theorem drewN_below (w : World) : ∀ n : Nat, Below w.heap.size w (w.drewN n)
  | 0 => Below.refl _ _
  | n + 1 => (drewN_below w n).drew
theorem Cut_any (sg b : Nat) (p e g i q : Value) (hsg : 0 < sg) (w : World) : Calls Tryd.prog 43 #[.agg #[.int .u64 sg, p, e, g, i, q], .int .u64 b] w fun e w' => e = .returned (.tuple #[.bool (decide (sg ≤ b)), .int .u64 (b % sg : Nat)]) ∧ Below w.heap.size w w' := by
  have q0 : ((sg : Int) == 0) = false := by simp; omega
  go_enter Tryd.func43, Tryd.ntmps43
  go_wp2_with fail
  have d0 := box w (Obj.cells #[.int .u64 sg, p, e, g, i, q] 71)
  have c0 : (w.alloc (Obj.cells #[.int .u64 sg, p, e, g, i, q] 71)).cell? ⟨w.heap.size, 0, none⟩ = some (.int .u64 sg) := by simp
  have q1 : Int.tmod (b : Int) (sg : Int) = ((b % sg : Nat) : Int) := (Int.ofNat_tmod b sg).symm
  generalize (w.alloc (Obj.cells #[.int .u64 sg, p, e, g, i, q] 71)) = w0 at *
  go_quiet (fail)
  go_wp2_with fail
  go_ret2
  exact ⟨by simp, on d0 (drewN_below _ _)⟩
end Go.Proofs.YthpnmkclboennaaDoor.BinP
