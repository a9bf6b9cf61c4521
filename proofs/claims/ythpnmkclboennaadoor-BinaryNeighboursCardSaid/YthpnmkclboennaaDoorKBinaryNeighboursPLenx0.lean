/- What the reference's Whole and Dyadic, DocValue and DocMid answer, told by numbers. Plain Lean. Conditions: words below 2^64.  -/
import Derived.Test.YthpnmkclboennaaDoorKBinaryNeighboursBinG
import Derived.Lib.TrailingZeros
import Derived.Test.YthpnmkclboennaaDoorKBinaryNeighboursPLibx2
import Derived.Test.YthpnmkclboennaaDoorKBinaryNeighboursPLibx9
import Derived.Test.YthpnmkclboennaaDoorKBinaryNeighboursPLibx7
import Derived.Test.YthpnmkclboennaaDoorProg
import Derived.Below
import Derived.Deep.Draws
import Derived.Deep.AppendLies
import Derived.Maps.AppendAt
import Derived.OwnWalk
import Derived.Laws.BytesArg
import Derived.Laws.MakeOwn
import Derived.Laws.OwnMore
import Derived.Deep.OwnRows
import Derived.Tactics
import Derived.Lib.ConvBytes
import Derived.Laws.Slices
import Derived.WalkKit
import Derived.KernelRfl
import Derived.RowKit3
import Derived.Deep.LoopGhost
import Derived.Deep.QuietTactic
import Derived.BigQuiet
import Derived.WideLaws
import Derived.Deep.DeepCutAuto
import Derived.Deep.CutBlock
import Derived.Deep.RegionHeld3
import Derived.Laws.Rows
import Derived.Lib.AppendStr
import Derived.ArgAppend
import Derived.Laws.IdiomCopy
import Derived.OrdersHeld
import Derived.Laws.BitsLemmas
import Derived.RowKit
import Derived.Test.YthpnmkclboennaaDoorKBinaryNeighboursWWords
import Derived.Test.YthpnmkclboennaaDoorKBinaryNeighboursWLast
import Derived.Test.YthpnmkclboennaaDoorKBinaryNeighboursWTab
import Derived.Test.YthpnmkclboennaaDoorKBinaryNeighboursWN
import Derived.Test.YthpnmkclboennaaDoorKBinaryNeighboursWEqStruct
import Derived.Test.YthpnmkclboennaaDoorKBinaryNeighboursWRepsOne
import Derived.Test.YthpnmkclboennaaDoorKBinaryNeighboursWMore
section
namespace Go.Proofs.YthpnmkclboennaaDoor.BinW
open Go.RowKit Go.Proofs.YthpnmkclboennaaDoorW.PrintWords Go.Proofs.YthpnmkclboennaaDoorW.PrintMore Go.Proofs.YthpnmkclboennaaDoor.Num Go.Proofs.YthpnmkclboennaaDoor.PLib Go.Proofs.YthpnmkclboennaaDoor.Ref Go.Proofs.YthpnmkclboennaaDoor.BinLaw Go.Proofs.YthpnmkclboennaaDoor.BinO2 Go.Proofs.YthpnmkclboennaaDoor.BinF Go.Proofs.YthpnmkclboennaaDoor.BinG
def dF (F : Fmt) (s : Nat) : Nat := s / hdF F - 1
def nF (F : Fmt) (s : Nat) : Nat := mgF F s * 2^(dF F s)
theorem xp_d (F : Fmt) (s : Nat) : xpF F s = F.low + (dF F s : Nat) := by
  unfold xpF dF
  split
  · rename_i c; rw [c]; simp
  · generalize s / hdF F = q at *
    omega
theorem fm_low {f : Int} {F : Fmt} (h : Fm f F) : -1074 ≤ F.low ∧ F.low ≤ -149 := by rcases h with ⟨_, rfl⟩ | ⟨_, rfl⟩ <;> exact ⟨by decide, by decide⟩
theorem q_le {f : Int} {F : Fmt} (h : Fm f F) {s : Nat} (hs : s < F.sg) : s / hdF F < 2048 := by
  rw [Nat.div_lt_iff_lt_mul (fm_hd h).1]
  rcases h with ⟨_, rfl⟩ | ⟨_, rfl⟩
  · have : s < 2147483648 := hs
    show s < 2048 * 8388608; omega
  · have : s < 9223372036854775808 := hs
    show s < 2048 * 4503599627370496; omega
theorem mg_lt {f : Int} {F : Fmt} (h : Fm f F) (s : Nat) : mgF F s < 2 * hdF F := by
  have hh := fm_hd h
  have := Nat.mod_lt s hh.1
  unfold mgF
  split <;> omega
theorem mg_lt53 {f : Int} {F : Fmt} (h : Fm f F) (s : Nat) : mgF F s < 2^53 := by
  have hh := fm_hd h
  have := mg_lt h s
  have e : (2 : Nat)^53 = 9007199254740992 := by decide
  rw [e]; omega
theorem ctz_spec {n : Nat} (h0 : n ≠ 0) (hn : n < 18446744073709551616) : ∃ m, n = 2^(Lib.ctz 64 n) * (2 * m + 1) ∧ Lib.ctz 64 n < 64 := by
  have e : Lib.ctz 64 n = Lib.ctzFrom 64 n := by simp [Lib.ctz, h0]
  rw [e]
  exact Lib.ctzFrom_spec 64 n (by omega) hn
def dyl (n : Nat) : List Int := if n = 0 then [] else [((n / 2^(Lib.ctz 64 n) : Nat) : Int)]
def dyx (n : Nat) (x : Int) : Int := if n = 0 then 0 else x + (Lib.ctz 64 n : Nat)
theorem odd_ne {n : Nat} (h0 : n ≠ 0) (hn : n < 18446744073709551616) : n / 2^(Lib.ctz 64 n) ≠ 0 ∧ n / 2^(Lib.ctz 64 n) < 18446744073709551616 := by
  obtain ⟨m, hm, _⟩ := ctz_spec h0 hn
  generalize Lib.ctz 64 n = c at *
  have e : n / 2^c = 2 * m + 1 := by
    conv => lhs; lhs; rw [hm]
    rw [Nat.mul_div_cancel_left _ (Nat.two_pow_pos _)]
  have := Nat.div_le_self n (2^c)
  omega
end Go.Proofs.YthpnmkclboennaaDoor.BinW
end
section
namespace Go.Proofs.YthpnmkclboennaaDoor.PLen
open Go.RowKit Go.Proofs.YthpnmkclboennaaDoorW.PrintWords Go.Proofs.YthpnmkclboennaaDoorW.PrintLast Go.Proofs.YthpnmkclboennaaDoorW.PrintMore
attribute [local go_sem] max2_int min2_int max_two min_two max_three min_three max_four min_four   -- for this text's walks alone
set_option linter.unusedVariables false
set_option linter.unusedSimpArgs false
def errW : Option Int → Value
  | none => .nilIface
  | some c => .iface 0 (.int .i64 c)
theorem errW_none : errW none = .nilIface := rfl
theorem errW_some (c : Int) : errW (some c) = .iface 0 (.int .i64 c) := rfl
end Go.Proofs.YthpnmkclboennaaDoor.PLen
end
