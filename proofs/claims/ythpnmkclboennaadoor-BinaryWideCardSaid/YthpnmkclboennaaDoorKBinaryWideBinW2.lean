/- What DocValue and DocMid answer, told by numbers. Plain Lean. Conditions: words below 2^64. -/
import Derived.Test.YthpnmkclboennaaDoorKBinaryWideBinW
import Derived.Test.YthpnmkclboennaaDoorKBinaryWidePLibx2
import Derived.Test.YthpnmkclboennaaDoorKBinaryWidePLibx3
import Derived.Test.YthpnmkclboennaaDoorKBinaryWidePLibx9
import Derived.Test.YthpnmkclboennaaDoorKBinaryWidePLibx7
namespace Go.Proofs.YthpnmkclboennaaDoor.BinW2
open Go.RowKit Go.Proofs.YthpnmkclboennaaDoorW.PrintWords Go.Proofs.YthpnmkclboennaaDoorW.PrintMore Go.Proofs.YthpnmkclboennaaDoor.Num Go.Proofs.YthpnmkclboennaaDoor.PLib Go.Proofs.YthpnmkclboennaaDoor.Ref Go.Proofs.YthpnmkclboennaaDoor.BinLaw Go.Proofs.YthpnmkclboennaaDoor.BinO2 Go.Proofs.YthpnmkclboennaaDoor.BinF Go.Proofs.YthpnmkclboennaaDoor.BinG Go.Proofs.YthpnmkclboennaaDoor.BinW
theorem n_step {f : Int} {F : Fmt} (h : Fm f F) (s : Nat) : nF F s + nF F (s + 1) = (2 * mgF F s + 1) * 2^(dF F s) := by
  have hh := (fm_hd h).1
  unfold nF mgF dF
  generalize hdF F = H at *
  have e1 := Nat.div_add_mod s H
  have hr : s % H < H := Nat.mod_lt _ hh
  generalize hq : s / H = q at *
  generalize hrr : s % H = r at *
  by_cases c : r + 1 < H
  · have d1 : (s + 1) / H = q := by
      rw [← e1, Nat.add_assoc, Nat.mul_add_div hh, Nat.div_eq_of_lt c]; omega
    have d2 : (s + 1) % H = r + 1 := by
      rw [← e1, Nat.add_assoc, Nat.mul_add_mod, Nat.mod_eq_of_lt c]
    rw [d1, d2, ← Nat.add_mul]
    congr 1
    by_cases q0 : q = 0
    · simp only [if_pos q0]; omega
    · simp only [if_neg q0]; omega
  · have hr1 : r + 1 = H := by omega
    have d1 : (s + 1) / H = q + 1 := by
      rw [← e1, Nat.add_assoc, hr1, ← Nat.mul_succ, Nat.mul_div_cancel_left _ hh]
    have d2 : (s + 1) % H = 0 := by
      rw [← e1, Nat.add_assoc, hr1, ← Nat.mul_succ, Nat.mul_mod_right]
    rw [d1, d2]
    cases q with
    | zero => simp; omega
    | succ q =>
      simp only [if_neg (Nat.succ_ne_zero _)]
      have e : 2^(q + 1 + 1 - 1) = 2 * 2^(q + 1 - 1) := by
        rw [show q + 1 + 1 - 1 = q + 1 by omega, show q + 1 - 1 = q by omega, Nat.pow_succ]; omega
      rw [e, Nat.add_zero, ← Nat.mul_assoc, ← Nat.add_mul]
      congr 1
      omega
end Go.Proofs.YthpnmkclboennaaDoor.BinW2
