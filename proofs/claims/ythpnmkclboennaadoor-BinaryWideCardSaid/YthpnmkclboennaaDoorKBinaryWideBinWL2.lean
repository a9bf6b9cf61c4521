/- The calls of the laws on Widen, Value, ClassOf and Rank, by numbers. Conditions: words below 2^64; math/bits' table is laid. -/
import Derived.Test.YthpnmkclboennaaDoorKBinaryWideBinWL
import Derived.Test.YthpnmkclboennaaDoorKBinaryWideBinaryWidensW
import Derived.Test.YthpnmkclboennaaDoorKBinaryWideBinAwake
import Derived.Test.YthpnmkclboennaaDoorKBinaryWideBinO2
import Derived.Test.YthpnmkclboennaaDoorKBinaryWidePLibx9
namespace Go.Proofs.YthpnmkclboennaaDoor.BinWL2
open Go.RowKit Go.Proofs.YthpnmkclboennaaDoorW.PrintWords Go.Proofs.YthpnmkclboennaaDoorW.PrintMore Go.Proofs.YthpnmkclboennaaDoorW.PrintLast Go.Proofs.YthpnmkclboennaaDoor.Num Go.Proofs.YthpnmkclboennaaDoor.Ref Go.Proofs.YthpnmkclboennaaDoor.BinLaw Go.Proofs.YthpnmkclboennaaDoor.BinA Go.Proofs.YthpnmkclboennaaDoor.BinO2 Go.Proofs.YthpnmkclboennaaDoor.BinP Go.Proofs.YthpnmkclboennaaDoor.BinF Go.Proofs.YthpnmkclboennaaDoor.BinG Go.Proofs.YthpnmkclboennaaDoor.BinW Go.Proofs.YthpnmkclboennaaDoor.BinW2 Go.Proofs.YthpnmkclboennaaDoor.BinTab Go.Proofs.YthpnmkclboennaaDoor.BinV1 Go.Proofs.YthpnmkclboennaaDoor.BinS2 Go.Proofs.YthpnmkclboennaaDoor.BinJ2 Go.Proofs.YthpnmkclboennaaDoor.BinJ4 Go.Proofs.YthpnmkclboennaaDoor.BinJ5 Go.Proofs.YthpnmkclboennaaDoor.BinWd Go.Proofs.YthpnmkclboennaaDoor.BinWL Go.Proofs.YthpnmkclboennaaDoor.BinaryWidensW
theorem class_num {f : Int} {F : Fmt} (h : Fm f F) (b : Nat) (hb : b < 2 * F.sg) : ∃ c : Int, (F.inf < b % F.sg → c = 4) ∧ (b % F.sg = F.inf → c = 3) ∧ (b % F.sg < F.inf → c ≠ 4 ∧ c ≠ 3) ∧ (b % F.sg = 0 → c = 0) ∧ (hdF F ≤ b % F.sg → b % F.sg < F.inf → c = 2) ∧
    ∀ w : World, Calls Tryd.prog 21 #[.int .i64 f, .int .u64 b] w fun e w' => e = .returned (.tuple #[.int .i64 c, .int .i64 0]) ∧ Below w.heap.size w w' := by
  have hh := fm_hd h
  have h2 := (fm_hd2 h).2
  have key : ∃ c : Int, PLib.binary_shape_class.f (F.wd : Nat) (F.man : Nat) F.low (F.qt : Nat) ((b % F.sg : Nat) : Int) = some c ∧ (F.inf < b % F.sg → c = 4) ∧ (b % F.sg = F.inf → c = 3) ∧ (b % F.sg < F.inf → c ≠ 4 ∧ c ≠ 3) ∧ (b % F.sg = 0 → c = 0) ∧ (hdF F ≤ b % F.sg → b % F.sg < F.inf → c = 2) := by
    unfold PLib.binary_shape_class.f
    rw [hidden_f h, inf_f h]
    simp only [Option.bind_some]
    generalize b % F.sg = s
    by_cases c0 : s = 0
    · exact ⟨0, if_pos (by omega), by omega, by omega, fun _ => by decide, fun _ => rfl, by omega⟩
    rw [if_neg (by omega)]
    by_cases c1 : s < hdF F
    · exact ⟨1, if_pos (by omega), by omega, by omega, fun _ => by decide, by omega, by omega⟩
    rw [if_neg (by omega)]
    by_cases c2 : s < F.inf
    · exact ⟨2, if_pos (by omega), by omega, by omega, fun _ => by decide, by omega, fun _ _ => rfl⟩
    rw [if_neg (by omega)]
    by_cases c3 : s = F.inf
    · exact ⟨3, if_pos (by omega), by omega, fun _ => rfl, by omega, by omega, by omega⟩
    · exact ⟨4, if_neg (by omega), fun _ => rfl, by omega, by omega, by omega, by omega⟩
  obtain ⟨c, k0, k1, k2, k3, k4, k5⟩ := key
  refine ⟨c, k1, k2, k3, k4, k5, fun w => ?_⟩
  have hE : Ev (fun k => PLib.binary_ClassOf.f k f (b : Int)) (c, 0) := by
    unfold PLib.binary_ClassOf.f
    refine Ev.bind (take_ok h b hb) ?_
    refine Ev.congr (fun k => if_pos rfl) ?_
    refine Ev.congr (f := fun _ => some _) (fun k => ?_) (Ev.now _)
    show (PLib.binary_shape_class.f _ _ _ _ ((b % F.sg : Nat) : Int)).bind _ = _
    rw [k0]
    rfl
  obtain ⟨k, hk⟩ := hE.rounds
  exact PLib.binary_ClassOf.calls k _ _ _ _ w hk
def rkN (F : Fmt) (b : Nat) : Int := if F.sg ≤ b then -((b % F.sg : Nat) : Int) else ((b % F.sg : Nat) : Int)
theorem rank_num {f : Int} {F : Fmt} (h : Fm f F) (b : Nat) (hb : b < 18446744073709551616) (h2 : b < 2 * F.sg) (hi : b % F.sg ≤ F.inf) (w : World) : Calls Tryd.prog 22 #[.int .i64 f, .int .u64 b] w fun e w' => e = .returned (.tuple #[.int .i64 (rkN F b), .int .i64 0]) ∧ Below w.heap.size w w' := by
  have e : rankF f b = (rkN F b, 0) := by
    unfold rankF rkN
    rw [h.on]
    unfold rk
    rw [if_neg (by omega), if_neg (by omega)]
    split <;> rfl
  have := Rank_any f b hb w
  rw [e] at this
  exact this
theorem widen_num (A : Nat) (hA : A < 4294967296) : ∃ x : Nat, wdF A = (x, 0) ∧ x < 18446744073709551616 ∧ (fS.inf < A % fS.sg → fD.inf < x % fD.sg) ∧ (A % fS.sg = fS.inf → x % fD.sg = fD.inf) ∧
    (A % fS.sg < fS.inf → x % fD.sg < fD.inf ∧ (fD.sg ≤ x ↔ fS.sg ≤ A) ∧ nF fD (x % fD.sg) = nF fS (A % fS.sg) * 2^925 ∧ (A % fS.sg = 0 → x % fD.sg = 0) ∧ (A % fS.sg ≠ 0 → hdF fD ≤ x % fD.sg)) := by
  have hsgD : fD.sg = 9223372036854775808 := rfl
  have hinfD : fD.inf = 9218868437227405312 := rfl
  have hqD : fD.qt = 9221120237041090561 := rfl
  unfold wdF
  rw [if_neg (by omega)]
  by_cases c1 : fS.inf < A % fS.sg
  · rw [if_pos c1]
    exact ⟨fD.qt, rfl, by decide, fun _ => by decide, by omega, by omega⟩
  rw [if_neg c1]
  by_cases c2 : A % fS.sg = fS.inf
  · rw [if_pos c2]
    refine ⟨_, rfl, ?_, by omega, fun _ => ?_, by omega⟩
    · split <;> decide
    · split <;> decide
  · rw [if_neg c2]
    obtain ⟨K, hK⟩ : ∃ K, K = 925 := ⟨_, rfl⟩
    obtain ⟨t, e1, e2, e3, e4, e5⟩ := wide_sz (A % fS.sg) (by omega) K hK (decide (fS.sg ≤ A))
    rw [e1, ← hK]
    by_cases c : fS.sg ≤ A
    · rw [if_pos (decide_eq_true c)]
      have hx : (fD.sg + t) % fD.sg = t := by rw [Nat.add_mod_left, Nat.mod_eq_of_lt (by omega)]
      refine ⟨_, rfl, by omega, by omega, by omega, fun _ => ?_⟩
      rw [hx]
      exact ⟨e2, by omega, e3, e4, e5⟩
    · rw [if_neg (by simpa using c)]
      have hx : t % fD.sg = t := Nat.mod_eq_of_lt (by omega)
      refine ⟨_, rfl, by omega, by omega, by omega, fun _ => ?_⟩
      rw [hx]
      exact ⟨e2, by omega, e3, e4, e5⟩
theorem rank_order {A B x y : Nat} (sA : fD.sg ≤ x ↔ fS.sg ≤ A) (sB : fD.sg ≤ y ↔ fS.sg ≤ B)
    (nA : nF fD (x % fD.sg) = nF fS (A % fS.sg) * 2^925) (nB : nF fD (y % fD.sg) = nF fS (B % fS.sg) * 2^925) (_zA : A % fS.sg = 0 ↔ x % fD.sg = 0) (_zB : B % fS.sg = 0 ↔ y % fD.sg = 0) :
    (rkN fS A < rkN fS B ↔ rkN fD x < rkN fD y) := by
  have h : Fm 32 fS := .inl ⟨rfl, rfl⟩
  have hD' : Fm 64 fD := .inr ⟨rfl, rfl⟩
  obtain ⟨K, hK⟩ : ∃ K, K = 925 := ⟨_, rfl⟩
  rw [← hK] at nA nB
  have o1 : A % fS.sg < B % fS.sg ↔ x % fD.sg < y % fD.sg := by
    rw [← nF_iff h (s := A % fS.sg), ← nF_iff hD' (s := x % fD.sg), nA, nB]
    exact (Nat.mul_lt_mul_right (Nat.two_pow_pos K)).symm
  have o2 : B % fS.sg < A % fS.sg ↔ y % fD.sg < x % fD.sg := by
    rw [← nF_iff h (s := B % fS.sg), ← nF_iff hD' (s := y % fD.sg), nA, nB]
    exact (Nat.mul_lt_mul_right (Nat.two_pow_pos K)).symm
  unfold rkN
  generalize A % fS.sg = a1 at *
  generalize B % fS.sg = b1 at *
  generalize x % fD.sg = x1 at *
  generalize y % fD.sg = y1 at *
  by_cases cA : fS.sg ≤ A <;> by_cases cB : fS.sg ≤ B
  · rw [if_pos cA, if_pos cB, if_pos (sA.2 cA), if_pos (sB.2 cB)]; omega
  · rw [if_pos cA, if_neg cB, if_pos (sA.2 cA), if_neg (fun c => cB (sB.1 c))]; omega
  · rw [if_neg cA, if_pos cB, if_neg (fun c => cA (sA.1 c)), if_pos (sB.2 cB)]; omega
  · rw [if_neg cA, if_neg cB, if_neg (fun c => cA (sA.1 c)), if_neg (fun c => cB (sB.1 c))]; omega
end Go.Proofs.YthpnmkclboennaaDoor.BinWL2
