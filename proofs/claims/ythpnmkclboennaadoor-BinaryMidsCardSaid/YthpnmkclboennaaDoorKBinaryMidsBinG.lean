/- The reference's format functions told by the format's numbers; Split, ClassOf and Quiet answer as the reference's. Plain Lean. Conditions: words below 2^64. -/
import Derived.Test.YthpnmkclboennaaDoorKBinaryMidsBinF
import Derived.Test.YthpnmkclboennaaDoorKBinaryMidsPLibx9
import Derived.Test.YthpnmkclboennaaDoorKBinaryMidsPLibx2
namespace Go.Proofs.YthpnmkclboennaaDoor.BinG
open Go.RowKit Go.Proofs.YthpnmkclboennaaDoorW.PrintWords Go.Proofs.YthpnmkclboennaaDoorW.PrintMore Go.Proofs.YthpnmkclboennaaDoor.Num Go.Proofs.YthpnmkclboennaaDoor.PLib Go.Proofs.YthpnmkclboennaaDoor.Ref Go.Proofs.YthpnmkclboennaaDoor.BinLaw Go.Proofs.YthpnmkclboennaaDoor.BinO2 Go.Proofs.YthpnmkclboennaaDoor.BinF
def gF (F : Fmt) : Int := if F.wd = 32 then 104 else 971
theorem of_f {f : Int} {F : Fmt} (h : Fm f F) : gnomonref07_Of.f f = some (((F.sg : Nat) : Int), ((F.man : Nat) : Int), F.low, gF F, ((F.inf : Nat) : Int), ((F.qt : Nat) : Int), true) := by
  rcases h with ⟨rfl, rfl⟩ | ⟨rfl, rfl⟩ <;> rfl
theorem check_ok {f : Int} {F : Fmt} (h : Fm f F) (b : Nat) (hb : b < 2 * F.sg) : gnomonref07_Check.f f (b : Int) = some 0 := by
  have hz := h.sz
  unfold gnomonref07_Check.f
  rw [of_f h]
  simp only [Option.bind_some, if_true]
  have e : Int.tdiv (b : Int) 2 = ((b / 2 : Nat) : Int) := (Int.ofNat_tdiv b 2).symm
  rw [e, wu64 (by omega) (by omega), if_neg (by omega)]
theorem check_bad {f : Int} {F : Fmt} (h : Fm f F) (b : Nat) (hb : b < 18446744073709551616) (h2 : 2 * F.sg ≤ b) : gnomonref07_Check.f f (b : Int) = some 2 := by
  unfold gnomonref07_Check.f
  rw [of_f h]
  simp only [Option.bind_some, if_true]
  have e : Int.tdiv (b : Int) 2 = ((b / 2 : Nat) : Int) := (Int.ofNat_tdiv b 2).symm
  rw [e, wu64 (by omega) (by omega), if_pos (by omega)]
theorem cut_f {f : Int} {F : Fmt} (h : Fm f F) (p e g i q : Int) (b : Nat) : gnomonref07_Cut.f ((F.sg : Nat) : Int) p e g i q (b : Int) = some (decide (F.sg ≤ b), ((b % F.sg : Nat) : Int)) := by
  have hz := h.sz
  unfold gnomonref07_Cut.f
  rw [if_neg (by omega)]
  have e1 : Int.tmod (b : Int) ((F.sg : Nat) : Int) = ((b % F.sg : Nat) : Int) := (Int.ofNat_tmod b F.sg).symm
  rw [e1]
  congr 2
  exact decide_eq_decide.2 (by omega)
theorem rparts_f {f : Int} {F : Fmt} (h : Fm f F) (g i q : Int) (s : Nat) (hs : s < F.sg) : gnomonref07_Parts.f ((F.sg : Nat) : Int) ((F.man : Nat) : Int) F.low g i q (s : Int) = some (((mgF F s : Nat) : Int), xpF F s) := by
  have e := parts_f h s hs
  have hh := hidden_f h
  unfold binary_shape_parts.f at e
  rw [hh] at e
  unfold binary_shape_hidden.f at hh
  unfold gnomonref07_Parts.f
  by_cases c : 0 ≤ wrap64 (((F.man : Nat) : Int) - 1)
  · rw [if_pos c] at hh ⊢
    rw [Option.some.inj hh]
    simp only [Option.bind_some] at e
    rw [← e]
    split
    · rfl
    · rfl
  · rw [if_neg c] at hh; cases hh
theorem rfinite_ok {f : Int} {F : Fmt} (h : Fm f F) (b : Nat) (hb : b < 2 * F.sg) (hi : b % F.sg < F.inf) : gnomonref07_finite.f f (b : Int) = some 0 := by
  unfold gnomonref07_finite.f
  rw [check_ok h b hb, of_f h]
  simp only [Option.bind_some, if_true, cut_f h]
  rw [if_neg (by omega)]
theorem rfinite_class {f : Int} {F : Fmt} (h : Fm f F) (b : Nat) (hb : b < 2 * F.sg) (hi : F.inf ≤ b % F.sg) : gnomonref07_finite.f f (b : Int) = some 6 := by
  unfold gnomonref07_finite.f
  rw [check_ok h b hb, of_f h]
  simp only [Option.bind_some, if_true, cut_f h]
  rw [if_pos (by omega)]
theorem rfinite_bad {f : Int} {F : Fmt} (h : Fm f F) (b : Nat) (hb : b < 18446744073709551616) (h2 : 2 * F.sg ≤ b) : gnomonref07_finite.f f (b : Int) = some 2 := by
  unfold gnomonref07_finite.f
  rw [check_bad h b hb h2]
  rfl
theorem shapeOf_no {f : Int} (h : f ≠ 32) (h' : f ≠ 64) : binary_shapeOf.f f = some (0, 0, 0, 0) := by unfold binary_shapeOf.f; rw [if_neg h, if_neg h']
theorem of_no {f : Int} (h : f ≠ 32) (h' : f ≠ 64) : gnomonref07_Of.f f = some (0, 0, 0, 0, 0, 0, false) := by unfold gnomonref07_Of.f; rw [if_neg h, if_neg h']
theorem take_no {f : Int} (h : f ≠ 32) (h' : f ≠ 64) (k : Nat) (b : Nat) : binary_take.f k f (b : Int) = some (0, 0, 0, 0, false, 0, 1) := by unfold binary_take.f; rw [shapeOf_no h h']; rfl
theorem finite_no {f : Int} (h : f ≠ 32) (h' : f ≠ 64) (b : Nat) : Ev (fun k => binary_finite.f k f (b : Int)) (0, 0, 0, 0, false, 0, 1) := by
  unfold binary_finite.f
  refine Ev.bind (Ev.congr (fun k => take_no h h' k b) (Ev.now _)) ?_
  exact Ev.congr (fun k => if_neg (show ¬ (1 : Int) = 0 by decide)) (Ev.step (f := fun _ => some (0, 0, 0, 0, false, 0, 1)) (fun k => by rw [binary_finite.j0, if_neg (by decide)]) (Ev.now _))
theorem check_no {f : Int} (h : f ≠ 32) (h' : f ≠ 64) (b : Nat) : gnomonref07_Check.f f (b : Int) = some 1 := by unfold gnomonref07_Check.f; rw [of_no h h']; rfl
theorem rfinite_no {f : Int} (h : f ≠ 32) (h' : f ≠ 64) (b : Nat) : gnomonref07_finite.f f (b : Int) = some 1 := by unfold gnomonref07_finite.f; rw [check_no h h' b]; rfl
theorem fin_cases (f : Int) (b : Nat) (hb : b < 18446744073709551616) : (∃ F, Fm f F ∧ b < 2 * F.sg ∧ b % F.sg < F.inf ∧ gnomonref07_finite.f f (b : Int) = some 0 ∧ Ev (fun k => binary_finite.f k f (b : Int)) (tk F (decide (F.sg ≤ b)) (b % F.sg) 0)) ∨
    ∃ (er : Int) (s0 s1 s2 s3 : Int), er ≠ 0 ∧ (Lit.int .i64 er).wf = true ∧ gnomonref07_finite.f f (b : Int) = some er ∧ Ev (fun k => binary_finite.f k f (b : Int)) (s0, s1, s2, s3, false, 0, er) := by
  rcases fm_cases f with ⟨F, h⟩ | ⟨h, h'⟩
  · by_cases c : b < 2 * F.sg
    · by_cases d : b % F.sg < F.inf
      · exact .inl ⟨F, h, c, d, rfinite_ok h b c d, finite_ok h b c d⟩
      · exact .inr ⟨6, _, _, _, _, by decide, by decide, rfinite_class h b c (by omega), finite_class h b c (by omega)⟩
    · exact .inr ⟨2, _, _, _, _, by decide, by decide, rfinite_bad h b hb (by omega), finite_bad h b hb (by omega)⟩
  · exact .inr ⟨1, _, _, _, _, by decide, by decide, rfinite_no h h' b, finite_no h h' b⟩
end Go.Proofs.YthpnmkclboennaaDoor.BinG
