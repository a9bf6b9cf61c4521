/- The numbers of a binary format by their sizes. Plain Lean; no program in sight. No condition. Rounding to nearest, ties to even: to whole units, and to the sizes of a format. Plain Lean; no program in sight. No condition. -/
import Derived.Test.YtapikmfckpgjoaaDoorKDdOrderBinLaw
import Derived.Test.YtapikmfckpgjoaaDoorKDdOrderBl
section
namespace Go.Proofs.YtapikmfckpgjoaaDoor.Fm8
open Go.Proofs.YtapikmfckpgjoaaDoor.BinLaw Go.Proofs.YtapikmfckpgjoaaDoor.Ref
def Fm (f : Int) (F : Fmt) : Prop := (f = 32 ∧ F = fS) ∨ (f = 64 ∧ F = fD)
theorem Fm.sz {f : Int} {F : Fmt} (h : Fm f F) : 0 < F.inf ∧ F.inf < F.sg ∧ F.sg ≤ 9223372036854775808 ∧ F.inf < 9223372036854775807 := by
 rcases h with ⟨_, rfl⟩ | ⟨_, rfl⟩ <;> exact ⟨by decide, by decide, by decide, by decide⟩
def hdF (F : Fmt) : Nat := F.sg - F.inf
def mgF (F : Fmt) (s : Nat) : Nat := if s / hdF F = 0 then s % hdF F else hdF F + s % hdF F
def xpF (F : Fmt) (s : Nat) : Int := if s / hdF F = 0 then F.low else F.low + (s / hdF F : Nat) - 1
def dF (F : Fmt) (s : Nat) : Nat := s / hdF F - 1
def nF (F : Fmt) (s : Nat) : Nat := mgF F s * 2^(dF F s)
theorem fm_isF {f : Int} {F : Fmt} (h : Fm f F) : IsF F := by
 rcases h with ⟨_, rfl⟩ | ⟨_, rfl⟩
 ·exact .inl rfl
 ·exact .inr rfl
theorem fm_hd {f : Int} {F : Fmt} (h : Fm f F) : 0 < hdF F ∧ hdF F + F.inf = F.sg ∧ hdF F ≤ 4503599627370496 ∧ hdF F % 2 = 0 ∧ 2 * hdF F ≤ F.inf ∧ hdF F = 2^(F.man - 1) ∧ F.inf % 2 = 0 ∧ F.inf % hdF F = 0 ∧ 1 ≤ F.man := by
 rcases h with ⟨_, rfl⟩ | ⟨_, rfl⟩ <;> exact ⟨by decide, by decide, by decide, by decide, by decide, by decide, by decide, by decide, by decide⟩
theorem fm_man {f : Int} {F : Fmt} (h : Fm f F) : (F.man = 24 ∧ F.low = -149) ∨ (F.man = 53 ∧ F.low = -1074) := by
 rcases h with ⟨_, rfl⟩ | ⟨_, rfl⟩
 ·exact .inl ⟨rfl, rfl⟩
 ·exact .inr ⟨rfl, rfl⟩
theorem xp_d (F : Fmt) (s : Nat) : xpF F s = F.low + (dF F s : Nat) := by
 unfold xpF dF
 generalize s / hdF F = q
 by_cases c : q = 0
 ·rw [if_pos c, c]; omega
 ·rw [if_neg c]; omega
end Go.Proofs.YtapikmfckpgjoaaDoor.Fm8
end
section
namespace Go.Proofs.YtapikmfckpgjoaaDoor.Rnd
open Go.Proofs.YtapikmfckpgjoaaDoor.BinLaw Go.Proofs.YtapikmfckpgjoaaDoor.Ref Go.Proofs.YtapikmfckpgjoaaDoor.Fm8
def nr (V k : Nat) : Nat := V / 2^k + (if 2^k < 2 * (V % 2^k) ∨ (2 * (V % 2^k) = 2^k ∧ V / 2^k % 2 = 1) then 1 else 0)
def rsz (F : Fmt) (g V : Nat) : Nat := min ((max (bl V - F.man) g - g) * hdF F + nr V (max (bl V - F.man) g)) F.inf
def md (F : Fmt) (g s : Nat) : Nat := (nF F s + nF F (s + 1)) * 2^g
end Go.Proofs.YtapikmfckpgjoaaDoor.Rnd
end
