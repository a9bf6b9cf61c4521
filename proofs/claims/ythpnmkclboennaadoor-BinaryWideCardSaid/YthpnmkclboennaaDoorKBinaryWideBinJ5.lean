/- DocJoin and DocWiden answer as the program's Join and Widen. Plain Lean. Conditions: words below 2^64, exponents of the format's numbers. -/
import Derived.Test.YthpnmkclboennaaDoorKBinaryWideBinJ4
import Derived.Test.YthpnmkclboennaaDoorKBinaryWidePLibx2
import Derived.Test.YthpnmkclboennaaDoorKBinaryWidePLibx3
import Derived.Test.YthpnmkclboennaaDoorKBinaryWidePLibx9
namespace Go.Proofs.YthpnmkclboennaaDoor.BinJ5
open Go.RowKit Go.Proofs.YthpnmkclboennaaDoorW.PrintWords Go.Proofs.YthpnmkclboennaaDoorW.PrintMore Go.Proofs.YthpnmkclboennaaDoorW.PrintLast Go.Proofs.YthpnmkclboennaaDoor.Num Go.Proofs.YthpnmkclboennaaDoor.PLib Go.Proofs.YthpnmkclboennaaDoor.Ref Go.Proofs.YthpnmkclboennaaDoor.BinLaw Go.Proofs.YthpnmkclboennaaDoor.BinA Go.Proofs.YthpnmkclboennaaDoor.BinO2 Go.Proofs.YthpnmkclboennaaDoor.BinF Go.Proofs.YthpnmkclboennaaDoor.BinG Go.Proofs.YthpnmkclboennaaDoor.BinW Go.Proofs.YthpnmkclboennaaDoor.BinJ2 Go.Proofs.YthpnmkclboennaaDoor.BinJ4
theorem n_sz {o d : Nat} (ho : o ≠ 0) (hn : bl o ≤ 53) : nF fD (szF fD (o * 2^d)) = o * 2^d := by
  have hP : fD.man = 53 := rfl
  have hH : hdF fD = 4503599627370496 := by decide
  have e52 : (2 : Nat)^52 = 4503599627370496 := by decide
  have e53 : (2 : Nat)^53 = 9007199254740992 := by decide
  have hbN : bl (o * 2^d) = bl o + d := bl_mul _ _ ho
  have hN0 : o * 2^d ≠ 0 := Nat.mul_ne_zero ho (Nat.ne_of_gt (Nat.two_pow_pos d))
  by_cases c : bl (o * 2^d) < 53
  · have e : szF fD (o * 2^d) = o * 2^d := by unfold szF; rw [hP, if_pos c]
    have hlt : o * 2^d < 4503599627370496 := by
      rw [← e52]
      exact Nat.lt_of_lt_of_le (bl_lt _) (Nat.pow_le_pow_right (by decide) (by omega))
    rw [e]
    unfold nF mgF dF
    rw [hH, Nat.div_eq_of_lt hlt, Nat.mod_eq_of_lt hlt, if_pos rfl]
    simp
  · obtain ⟨q, hq⟩ : ∃ q, bl (o * 2^d) - 53 = q := ⟨_, rfl⟩
    have hw1 : o * 2^d / 2^q < 9007199254740992 := by
      rw [← e53, Nat.div_lt_iff_lt_mul (Nat.two_pow_pos _), ← Nat.pow_add]
      exact Nat.lt_of_lt_of_le (bl_lt _) (Nat.pow_le_pow_right (by decide) (by omega))
    have hw2 : 4503599627370496 ≤ o * 2^d / 2^q := by
      rw [← e52, Nat.le_div_iff_mul_le (Nat.two_pow_pos _), ← Nat.pow_add]
      exact Nat.le_trans (Nat.pow_le_pow_right (by decide) (by omega)) (bl_ge hN0)
    have hdiv : o * 2^d / 2^q * 2^q = o * 2^d := by
      refine Nat.div_mul_cancel ?_
      have : d = q + (d - q) := by omega
      rw [this, Nat.pow_add, ← Nat.mul_assoc, Nat.mul_comm o, Nat.mul_assoc]
      exact Nat.dvd_mul_right _ _
    have e : szF fD (o * 2^d) = q * 4503599627370496 + o * 2^d / 2^q := by unfold szF; rw [hP, hH, if_neg c, hq]
    rw [e]
    generalize o * 2^d / 2^q = W at *
    unfold nF mgF dF
    rw [hH]
    have d1 : (q * 4503599627370496 + W) / 4503599627370496 = q + 1 := by omega
    have d2 : (q * 4503599627370496 + W) % 4503599627370496 = W - 4503599627370496 := by omega
    rw [d1, d2, if_neg (by omega), Nat.add_sub_cancel, show 4503599627370496 + (W - 4503599627370496) = W by omega, ← hdiv]
def wdF (b : Nat) : Nat × Int :=
  if 4294967296 ≤ b then (0, 2) else
  if fS.inf < b % fS.sg then (fD.qt, 0) else
  if b % fS.sg = fS.inf then (if fS.sg ≤ b then fD.sg + fD.inf else fD.inf, 0) else
  jnF fD (decide (fS.sg ≤ b)) (mgF fS (b % fS.sg)) (xpF fS (b % fS.sg))
theorem xp_S {s : Nat} (hs : s < fS.sg) : -149 ≤ xpF fS s ∧ xpF fS s ≤ 106 := by
  have h : Fm 32 fS := .inl ⟨rfl, rfl⟩
  rw [xp_d]
  have hl : fS.low = -149 := rfl
  have hH : hdF fS = 8388608 := by decide
  have hs' : s < 2147483648 := hs
  unfold dF
  rw [hH, hl]
  omega
theorem mg_S (s : Nat) : mgF fS s < 16777216 := by
  have h : Fm 32 fS := .inl ⟨rfl, rfl⟩
  have := mg_lt h s
  have hH : hdF fS = 8388608 := by decide
  omega
end Go.Proofs.YthpnmkclboennaaDoor.BinJ5
