/- The calls of the laws on Widen, Value, ClassOf and Rank, by numbers. Conditions: words below 2^64; math/bits' table is laid. Split and Join undo one another; the sign's bit turned; Make of any empty list. Plain Lean but for Make. Conditions: finite words of the format. -/
import Derived.Test.YthpnmkclboennaaDoorKBinaryNeighboursBinaryMidsW
import Derived.Test.YthpnmkclboennaaDoorKBinaryNeighboursBinRow
import Derived.Test.YthpnmkclboennaaDoorKBinaryNeighboursPLibx2
import Derived.Test.YthpnmkclboennaaDoorKBinaryNeighboursPLibx9
import Derived.Test.YthpnmkclboennaaDoorKBinaryNeighboursBinAwake
import Derived.Test.YthpnmkclboennaaDoorKBinaryNeighboursWEqStruct
import Derived.Test.YthpnmkclboennaaDoorKBinaryNeighboursBinNg3
section
namespace Go.Proofs.YthpnmkclboennaaDoor.BinWL2
open Go.RowKit Go.Proofs.YthpnmkclboennaaDoorW.PrintWords Go.Proofs.YthpnmkclboennaaDoorW.PrintMore Go.Proofs.YthpnmkclboennaaDoorW.PrintLast Go.Proofs.YthpnmkclboennaaDoor.Num Go.Proofs.YthpnmkclboennaaDoor.Ref Go.Proofs.YthpnmkclboennaaDoor.BinLaw Go.Proofs.YthpnmkclboennaaDoor.BinA Go.Proofs.YthpnmkclboennaaDoor.BinO2 Go.Proofs.YthpnmkclboennaaDoor.BinP Go.Proofs.YthpnmkclboennaaDoor.BinF Go.Proofs.YthpnmkclboennaaDoor.BinG Go.Proofs.YthpnmkclboennaaDoor.BinW Go.Proofs.YthpnmkclboennaaDoor.BinW2 Go.Proofs.YthpnmkclboennaaDoor.BinTab Go.Proofs.YthpnmkclboennaaDoor.BinV1 Go.Proofs.YthpnmkclboennaaDoor.BinS2 Go.Proofs.YthpnmkclboennaaDoor.BinJ2 Go.Proofs.YthpnmkclboennaaDoor.BinJ4 Go.Proofs.YthpnmkclboennaaDoor.BinWd Go.Proofs.YthpnmkclboennaaDoor.BinWL
def rkN (F : Fmt) (b : Nat) : Int := if F.sg ≤ b then -((b % F.sg : Nat) : Int) else ((b % F.sg : Nat) : Int)
end Go.Proofs.YthpnmkclboennaaDoor.BinWL2
end
section
namespace Go.Proofs.YthpnmkclboennaaDoor.BinRj
open Go.RowKit Go.Proofs.YthpnmkclboennaaDoorW.PrintWords Go.Proofs.YthpnmkclboennaaDoorW.PrintMore Go.Proofs.YthpnmkclboennaaDoorW.PrintLast Go.Proofs.YthpnmkclboennaaDoor.Num Go.Proofs.YthpnmkclboennaaDoor.Ref Go.Proofs.YthpnmkclboennaaDoor.BinLaw Go.Proofs.YthpnmkclboennaaDoor.BinA Go.Proofs.YthpnmkclboennaaDoor.BinO2 Go.Proofs.YthpnmkclboennaaDoor.BinF Go.Proofs.YthpnmkclboennaaDoor.BinG Go.Proofs.YthpnmkclboennaaDoor.BinW Go.Proofs.YthpnmkclboennaaDoor.BinW2 Go.Proofs.YthpnmkclboennaaDoor.BinTab Go.Proofs.YthpnmkclboennaaDoor.BinM Go.Proofs.YthpnmkclboennaaDoor.BinM2 Go.Proofs.YthpnmkclboennaaDoor.BinV1 Go.Proofs.YthpnmkclboennaaDoor.BinS Go.Proofs.YthpnmkclboennaaDoor.BinS2 Go.Proofs.YthpnmkclboennaaDoor.BinJ Go.Proofs.YthpnmkclboennaaDoor.BinJ2 Go.Proofs.YthpnmkclboennaaDoor.BinJ4 Go.Proofs.YthpnmkclboennaaDoor.BinWL Go.Proofs.YthpnmkclboennaaDoor.BinNg Go.Proofs.YthpnmkclboennaaDoor.BinNg2 Go.Proofs.YthpnmkclboennaaDoor.BinNg3
def flip (F : Fmt) (b : Nat) : Nat := if F.sg ≤ b then b - F.sg else b + F.sg
theorem flip_facts {f : Int} {F : Fmt} (h : Fm f F) {b : Nat} (h2 : b < 2 * F.sg) : flip F b < 2 * F.sg ∧ flip F b % F.sg = b % F.sg ∧ decide (F.sg ≤ flip F b) = !decide (F.sg ≤ b) := by
  have hz := h.sz
  unfold flip
  by_cases c : F.sg ≤ b
  · rw [if_pos c]
    refine ⟨by omega, (Nat.mod_eq_sub_mod c).symm, ?_⟩
    rw [decide_eq_true c, decide_eq_false (by omega)]; rfl
  · rw [if_neg c]
    refine ⟨by omega, Nat.add_mod_right _ _, ?_⟩
    rw [decide_eq_false c, decide_eq_true (by omega)]; rfl
theorem xor_pow (k b : Nat) (hb : b < 2 * 2^k) : b ^^^ 2^k = if 2^k ≤ b then b - 2^k else b + 2^k := by
  have h1 : (b ^^^ 2^k) % 2^k = b % 2^k := by rw [Nat.xor_mod_two_pow, Nat.mod_self, Nat.xor_zero]
  have h2 : (b ^^^ 2^k) / 2^k = b / 2^k ^^^ 1 := by rw [Nat.xor_div_two_pow, Nat.div_self (Nat.two_pow_pos k)]
  have h3 := Nat.div_add_mod (b ^^^ 2^k) (2^k)
  have h4 := Nat.div_add_mod b (2^k)
  rw [h1, h2] at h3
  rcases one_of hb with c | c
  · have : ¬ 2^k ≤ b := fun x => by have := Nat.div_pos x (Nat.two_pow_pos k); omega
    rw [if_neg this, ← h3, c]
    rw [c] at h4
    have e : (0 ^^^ 1 : Nat) = 1 := by decide
    rw [e]; omega
  · have : 2^k ≤ b := by
      by_cases x : 2^k ≤ b
      · exact x
      · rw [Nat.div_eq_of_lt (by omega)] at c; omega
    rw [if_pos this, ← h3, c]
    rw [c] at h4
    have e : (1 ^^^ 1 : Nat) = 0 := by decide
    rw [e]; omega
theorem xor_sg {f : Int} {F : Fmt} (h : Fm f F) {b : Nat} (h2 : b < 2 * F.sg) (h64 : b < 18446744073709551616) : bits .xor .u64 (b : Int) ((F.sg : Nat) : Int) = ((flip F b : Nat) : Int) := by
  have hz := h.sz
  rw [u64_xor_nat b F.sg h64 (by omega)]
  unfold flip
  rcases h with ⟨_, rfl⟩ | ⟨_, rfl⟩
  · have e : fS.sg = 2^31 := by decide
    rw [e] at h2 ⊢
    rw [xor_pow 31 b h2]
  · have e : fD.sg = 2^63 := by decide
    rw [e] at h2 ⊢
    rw [xor_pow 63 b h2]
theorem sign_call {f : Int} {F : Fmt} (h : Fm f F) (w : World) : Calls Tryd.prog 25 #[.int .i64 f] w fun e w' => e = .returned (.int .u64 (F.sg : Nat)) ∧ Below w.heap.size w w' := by
  have e : PFin.gnomonlaw07_sign.f f = some ((F.sg : Nat) : Int) := by
    unfold PFin.gnomonlaw07_sign.f
    rcases h with ⟨rfl, rfl⟩ | ⟨rfl, rfl⟩ <;> rfl
  exact (PFin.gnomonlaw07_sign.calls _ _ w e).mono fun _ _ ⟨a, b⟩ => ⟨a, b.below⟩
end Go.Proofs.YthpnmkclboennaaDoor.BinRj
end
