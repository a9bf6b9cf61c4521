/- What Widen does to sizes: the number is kept, the order too. Plain Lean. Condition: sizes of finite numbers. -/
import Derived.Test.YthpnmkclboennaaDoorKBinaryRejoinsBinJ4
import Derived.Test.YthpnmkclboennaaDoorKBinaryRejoinsPLibx0
import Derived.Test.YthpnmkclboennaaDoorKBinaryRejoinsPLibx2
import Derived.Test.YthpnmkclboennaaDoorKBinaryRejoinsPLibx3
import Derived.Test.YthpnmkclboennaaDoorKBinaryRejoinsPLibx9
import Derived.Test.YthpnmkclboennaaDoorKBinaryRejoinsPFinx1
import Derived.Test.YthpnmkclboennaaDoorKBinaryRejoinsBinTab
namespace Go.Proofs.YthpnmkclboennaaDoor.BinWL
open Go.RowKit Go.Proofs.YthpnmkclboennaaDoorW.PrintWords Go.Proofs.YthpnmkclboennaaDoorW.PrintMore Go.Proofs.YthpnmkclboennaaDoorW.PrintLast Go.Proofs.YthpnmkclboennaaDoor.Num Go.Proofs.YthpnmkclboennaaDoor.Ref Go.Proofs.YthpnmkclboennaaDoor.BinLaw Go.Proofs.YthpnmkclboennaaDoor.BinA Go.Proofs.YthpnmkclboennaaDoor.BinO2 Go.Proofs.YthpnmkclboennaaDoor.BinF Go.Proofs.YthpnmkclboennaaDoor.BinG Go.Proofs.YthpnmkclboennaaDoor.BinW Go.Proofs.YthpnmkclboennaaDoor.BinW2 Go.Proofs.YthpnmkclboennaaDoor.BinJ2 Go.Proofs.YthpnmkclboennaaDoor.BinJ4
theorem nF_step {f : Int} {F : Fmt} (h : Fm f F) (s : Nat) : nF F s < nF F (s + 1) := by
  have e := n_step h s
  have e1 : (2 * mgF F s + 1) * 2^(dF F s) = nF F s + (nF F s + 2^(dF F s)) := by
    unfold nF
    rw [Nat.add_mul, Nat.one_mul, Nat.mul_assoc, Nat.two_mul, Nat.add_assoc]
  have := Nat.two_pow_pos (dF F s)
  omega
theorem nF_lt {f : Int} {F : Fmt} (h : Fm f F) {s t : Nat} (hst : s < t) : nF F s < nF F t := by
  obtain ⟨d, rfl⟩ : ∃ d, t = s + 1 + d := ⟨t - (s + 1), by omega⟩
  clear hst
  induction d with
  | zero => exact nF_step h s
  | succ d ih => exact Nat.lt_trans ih (nF_step h (s + 1 + d))
theorem nF_zero (F : Fmt) : nF F 0 = 0 := by unfold nF mgF; simp
theorem mg_zero {f : Int} {F : Fmt} (h : Fm f F) {s : Nat} (hs : s ≠ 0) : mgF F s ≠ 0 := by
  intro c
  have : nF F s = 0 := by unfold nF; rw [c, Nat.zero_mul]
  have h2 := nF_lt h (show 0 < s by omega)
  rw [nF_zero] at h2
  omega
theorem finite_f {f : Int} {F : Fmt} (h : Fm f F) (b : Nat) (hb : b < 18446744073709551616) : PFin.gnomonlaw07_finite.f f (b : Int) = some (decide (b < 2 * F.sg ∧ b % F.sg < F.inf)) := by
  unfold PFin.gnomonlaw07_finite.f
  rcases h with ⟨rfl, rfl⟩ | ⟨rfl, rfl⟩
  · have e : Int.tmod (b : Int) 2147483648 = ((b % 2147483648 : Nat) : Int) := (Int.ofNat_tmod b 2147483648).symm
    have hsg : fS.sg = 2147483648 := rfl
    have hinf : fS.inf = 2139095040 := rfl
    rw [if_pos rfl, e, hsg, hinf]
    by_cases c : b < 4294967296
    · rw [if_pos (by omega)]
      exact congrArg some (decide_eq_decide.2 (by omega))
    · rw [if_neg (by omega)]
      exact congrArg some (decide_eq_false (by omega)).symm
  · have e : Int.tmod (b : Int) 9223372036854775808 = ((b % 9223372036854775808 : Nat) : Int) := (Int.ofNat_tmod b 9223372036854775808).symm
    have hsg : fD.sg = 9223372036854775808 := rfl
    have hinf : fD.inf = 9218868437227405312 := rfl
    rw [if_neg (by decide), if_pos rfl, e, hsg, hinf]
    exact congrArg some (decide_eq_decide.2 (by omega))
end Go.Proofs.YthpnmkclboennaaDoor.BinWL
