/- What Widen does to sizes: the number is kept, the order too. Plain Lean. Condition: sizes of finite numbers. The program's Widen in one row. Conditions: words below 2^64; math/bits' table is laid. The walk of the law BinaryMids: it returns true, and the world has at most new blocks. Condition: the script reads as calls; math/bits' table is laid. -/
import Derived.Test.YthpnmkclboennaaDoorKBinaryNeighboursBinJ4
import Derived.Test.YthpnmkclboennaaDoorKBinaryNeighboursPLibx2
import Derived.Test.YthpnmkclboennaaDoorKBinaryNeighboursPLibx9
import Derived.Test.YthpnmkclboennaaDoorKBinaryNeighboursPFinx1
import Derived.Test.YthpnmkclboennaaDoorKBinaryNeighboursBinTab
import Derived.Deep.RegionHeld3
import Derived.Test.YthpnmkclboennaaDoorKBinaryNeighboursPLibx8
import Derived.Test.YthpnmkclboennaaDoorKBinaryNeighboursPLibx7
import Derived.Test.YthpnmkclboennaaDoorKBinaryNeighboursPNegx0
section
namespace Go.Proofs.YthpnmkclboennaaDoor.BinWL
open Go.RowKit Go.Proofs.YthpnmkclboennaaDoorW.PrintWords Go.Proofs.YthpnmkclboennaaDoorW.PrintMore Go.Proofs.YthpnmkclboennaaDoorW.PrintLast Go.Proofs.YthpnmkclboennaaDoor.Num Go.Proofs.YthpnmkclboennaaDoor.Ref Go.Proofs.YthpnmkclboennaaDoor.BinLaw Go.Proofs.YthpnmkclboennaaDoor.BinA Go.Proofs.YthpnmkclboennaaDoor.BinO2 Go.Proofs.YthpnmkclboennaaDoor.BinF Go.Proofs.YthpnmkclboennaaDoor.BinG Go.Proofs.YthpnmkclboennaaDoor.BinW Go.Proofs.YthpnmkclboennaaDoor.BinW2 Go.Proofs.YthpnmkclboennaaDoor.BinJ2 Go.Proofs.YthpnmkclboennaaDoor.BinJ4
theorem nF_step {f : Int} {F : Fmt} (h : Fm f F) (s : Nat) : nF F s < nF F (s + 1) := by
  have e := n_step h s
  have e1 : (2 * mgF F s + 1) * 2^(dF F s) = nF F s + (nF F s + 2^(dF F s)) := by
    unfold nF
    rw [Nat.add_mul, Nat.one_mul, Nat.mul_assoc, Nat.two_mul, Nat.add_assoc]
  have := Nat.two_pow_pos (dF F s)
  omega
theorem nF_lt {f : Int} {F : Fmt} (h : Fm f F) {s t : Nat} (hst : s < t) : nF F s < nF F t := by
  obtain ⟨d, rfl⟩ : ∃ d, t = s + 1 + d := ⟨t - (s + 1), by omega⟩
  clear hst
  induction d with
  | zero => exact nF_step h s
  | succ d ih => exact Nat.lt_trans ih (nF_step h (s + 1 + d))
theorem nF_iff {f : Int} {F : Fmt} (h : Fm f F) {s t : Nat} : nF F s < nF F t ↔ s < t := by
  refine ⟨fun a => ?_, nF_lt h⟩
  rcases Nat.lt_trichotomy s t with c | c | c
  · exact c
  · subst c; omega
  · have := nF_lt h c; omega
theorem nF_zero (F : Fmt) : nF F 0 = 0 := by unfold nF mgF; simp
theorem finite_f {f : Int} {F : Fmt} (h : Fm f F) (b : Nat) (hb : b < 18446744073709551616) : PFin.gnomonlaw07_finite.f f (b : Int) = some (decide (b < 2 * F.sg ∧ b % F.sg < F.inf)) := by
  unfold PFin.gnomonlaw07_finite.f
  rcases h with ⟨rfl, rfl⟩ | ⟨rfl, rfl⟩
  · have e : Int.tmod (b : Int) 2147483648 = ((b % 2147483648 : Nat) : Int) := (Int.ofNat_tmod b 2147483648).symm
    have hsg : fS.sg = 2147483648 := rfl
    have hinf : fS.inf = 2139095040 := rfl
    rw [if_pos rfl, e, hsg, hinf]
    by_cases c : b < 4294967296
    · rw [if_pos (by omega)]
      exact congrArg some (decide_eq_decide.2 (by omega))
    · rw [if_neg (by omega)]
      exact congrArg some (decide_eq_false (by omega)).symm
  · have e : Int.tmod (b : Int) 9223372036854775808 = ((b % 9223372036854775808 : Nat) : Int) := (Int.ofNat_tmod b 9223372036854775808).symm
    have hsg : fD.sg = 9223372036854775808 := rfl
    have hinf : fD.inf = 9218868437227405312 := rfl
    rw [if_neg (by decide), if_pos rfl, e, hsg, hinf]
    exact congrArg some (decide_eq_decide.2 (by omega))
end Go.Proofs.YthpnmkclboennaaDoor.BinWL
end
section
namespace Go.Proofs.YthpnmkclboennaaDoor.BinWd
open Go.RowKit Go.Proofs.YthpnmkclboennaaDoorW.PrintWords Go.Proofs.YthpnmkclboennaaDoorW.PrintMore Go.Proofs.YthpnmkclboennaaDoorW.PrintLast Go.Proofs.YthpnmkclboennaaDoor.Num Go.Proofs.YthpnmkclboennaaDoor.Ref Go.Proofs.YthpnmkclboennaaDoor.BinLaw Go.Proofs.YthpnmkclboennaaDoor.BinA Go.Proofs.YthpnmkclboennaaDoor.BinO2 Go.Proofs.YthpnmkclboennaaDoor.BinF Go.Proofs.YthpnmkclboennaaDoor.BinG Go.Proofs.YthpnmkclboennaaDoor.BinW Go.Proofs.YthpnmkclboennaaDoor.BinTab Go.Proofs.YthpnmkclboennaaDoor.BinM Go.Proofs.YthpnmkclboennaaDoor.BinLen Go.Proofs.YthpnmkclboennaaDoor.BinJ Go.Proofs.YthpnmkclboennaaDoor.BinJ4
theorem hS : Fm 32 fS := .inl ⟨rfl, rfl⟩
end Go.Proofs.YthpnmkclboennaaDoor.BinWd
end
section
namespace Go.Proofs.YthpnmkclboennaaDoor.BinaryMidsW
open Go.RowKit Go.Proofs.YthpnmkclboennaaDoorW.PrintWords Go.Proofs.YthpnmkclboennaaDoorW.PrintMore Go.Proofs.YthpnmkclboennaaDoorW.PrintLast Go.Proofs.YthpnmkclboennaaDoor.Num Go.Proofs.YthpnmkclboennaaDoor.PLib Go.Proofs.YthpnmkclboennaaDoor.Ref Go.Proofs.YthpnmkclboennaaDoor.BinLaw Go.Proofs.YthpnmkclboennaaDoor.BinA Go.Proofs.YthpnmkclboennaaDoor.BinO2 Go.Proofs.YthpnmkclboennaaDoor.BinF Go.Proofs.YthpnmkclboennaaDoor.BinW Go.Proofs.YthpnmkclboennaaDoor.BinTab Go.Proofs.YthpnmkclboennaaDoor.BinM Go.Proofs.YthpnmkclboennaaDoor.BinM2 Go.Proofs.YthpnmkclboennaaDoor.BinV1 Go.Proofs.YthpnmkclboennaaDoor.BinAll Go.Proofs.YthpnmkclboennaaDoor.BinS Go.Proofs.YthpnmkclboennaaDoor.BinS2
theorem same_new (z : Int) (m : Nat) (hz : (m : Int) = z) (A : Option Addr) (c : Nat) (w : World) (h : DyL w A c [z]) :
    Calls Tryd.prog 31 #[.slice A 1 c, .slice (some ⟨w.heap.size, 0, none⟩) 1 1] (w.alloc (Obj.cells #[.int .u64 z] 23)) (OnW (w.alloc (Obj.cells #[.int .u64 z] 23))) := by
  subst hz
  obtain ⟨k, hk⟩ := (same_ev [(m : Int)] (by simp)).rounds
  have h2 := h.next (box w (Obj.cells #[.int .u64 (m : Int)] 23))
  have a1 : At1 (w.alloc (Obj.cells #[.int .u64 (m : Int)] 23)) w.heap.size 0 m := ⟨by simp⟩
  exact (gnomonref01_Same.calls k A c [(m : Int)] (some ⟨w.heap.size, 0, none⟩) 1 [(m : Int)] true _ h2.row h2.cap (one_C a1) (Nat.le_refl _) hk).mono fun _ _ ⟨e, d⟩ => ⟨e, d.below⟩
end Go.Proofs.YthpnmkclboennaaDoor.BinaryMidsW
end
