/- The reference's format functions told by the format's numbers; Split, ClassOf and Quiet answer as the reference's. Plain Lean. Conditions: words below 2^64. -/
import Derived.Test.YthpnmkclboennaaDoorKBinaryWidensBinF
import Derived.Test.YthpnmkclboennaaDoorKBinaryWidensPLibx9
import Derived.Test.YthpnmkclboennaaDoorKBinaryWidensPLibx2
namespace Go.Proofs.YthpnmkclboennaaDoor.BinG
open Go.RowKit Go.Proofs.YthpnmkclboennaaDoorW.PrintWords Go.Proofs.YthpnmkclboennaaDoorW.PrintMore Go.Proofs.YthpnmkclboennaaDoor.Num Go.Proofs.YthpnmkclboennaaDoor.PLib Go.Proofs.YthpnmkclboennaaDoor.Ref Go.Proofs.YthpnmkclboennaaDoor.BinLaw Go.Proofs.YthpnmkclboennaaDoor.BinO2 Go.Proofs.YthpnmkclboennaaDoor.BinF
def gF (F : Fmt) : Int := if F.wd = 32 then 104 else 971
theorem of_f {f : Int} {F : Fmt} (h : Fm f F) : gnomonref07_Of.f f = some (((F.sg : Nat) : Int), ((F.man : Nat) : Int), F.low, gF F, ((F.inf : Nat) : Int), ((F.qt : Nat) : Int), true) := by
  rcases h with ⟨rfl, rfl⟩ | ⟨rfl, rfl⟩ <;> rfl
theorem check_ok {f : Int} {F : Fmt} (h : Fm f F) (b : Nat) (hb : b < 2 * F.sg) : gnomonref07_Check.f f (b : Int) = some 0 := by
  have hz := h.sz
  unfold gnomonref07_Check.f
  rw [of_f h]
  simp only [Option.bind_some, if_true]
  have e : Int.tdiv (b : Int) 2 = ((b / 2 : Nat) : Int) := (Int.ofNat_tdiv b 2).symm
  rw [e, wu64 (by omega) (by omega), if_neg (by omega)]
theorem check_bad {f : Int} {F : Fmt} (h : Fm f F) (b : Nat) (hb : b < 18446744073709551616) (h2 : 2 * F.sg ≤ b) : gnomonref07_Check.f f (b : Int) = some 2 := by
  unfold gnomonref07_Check.f
  rw [of_f h]
  simp only [Option.bind_some, if_true]
  have e : Int.tdiv (b : Int) 2 = ((b / 2 : Nat) : Int) := (Int.ofNat_tdiv b 2).symm
  rw [e, wu64 (by omega) (by omega), if_pos (by omega)]
theorem cut_f {f : Int} {F : Fmt} (h : Fm f F) (p e g i q : Int) (b : Nat) : gnomonref07_Cut.f ((F.sg : Nat) : Int) p e g i q (b : Int) = some (decide (F.sg ≤ b), ((b % F.sg : Nat) : Int)) := by
  have hz := h.sz
  unfold gnomonref07_Cut.f
  rw [if_neg (by omega)]
  have e1 : Int.tmod (b : Int) ((F.sg : Nat) : Int) = ((b % F.sg : Nat) : Int) := (Int.ofNat_tmod b F.sg).symm
  rw [e1]
  congr 2
  exact decide_eq_decide.2 (by omega)
theorem rparts_f {f : Int} {F : Fmt} (h : Fm f F) (g i q : Int) (s : Nat) (hs : s < F.sg) : gnomonref07_Parts.f ((F.sg : Nat) : Int) ((F.man : Nat) : Int) F.low g i q (s : Int) = some (((mgF F s : Nat) : Int), xpF F s) := by
  have e := parts_f h s hs
  have hh := hidden_f h
  unfold binary_shape_parts.f at e
  rw [hh] at e
  unfold binary_shape_hidden.f at hh
  unfold gnomonref07_Parts.f
  by_cases c : 0 ≤ wrap64 (((F.man : Nat) : Int) - 1)
  · rw [if_pos c] at hh ⊢
    rw [Option.some.inj hh]
    simp only [Option.bind_some] at e
    rw [← e]
    split
    · rfl
    · rfl
  · rw [if_neg c] at hh; cases hh
end Go.Proofs.YthpnmkclboennaaDoor.BinG
