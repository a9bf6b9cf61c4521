/- What the reference's functions on lists of digits answer (norm, sums, differences, comparison, products by a digit, shifts), told by numbers. Plain Lean over the printed functions. Conditions: lists of less than 2^40 digits. -/
import Derived.Test.YthpnmkclboennaaDoorKBinaryRejoinsNum
import Derived.Test.YthpnmkclboennaaDoorKBinaryRejoinsPLibx2
import Derived.Test.YthpnmkclboennaaDoorKBinaryRejoinsPLibx0
import Derived.Test.YthpnmkclboennaaDoorKBinaryRejoinsPLibx7
namespace Go.Proofs.YthpnmkclboennaaDoor.Ref
open Go.RowKit Go.Proofs.YthpnmkclboennaaDoorW.PrintWords Go.Proofs.YthpnmkclboennaaDoorW.PrintMore Go.Proofs.YthpnmkclboennaaDoor.Num Go.Proofs.YthpnmkclboennaaDoor.PLib
theorem cpy_all {α : Type} (a b : List α) (h : a.length = b.length) : cpy a b = b := by
  unfold cpy
  rw [h, List.take_length, List.drop_eq_nil_of_le (by omega), List.append_nil]
theorem norm_l0 {l : List Int} (hD : Dg l) (hlen : l.length < 1099511627776) (n : Nat) (hn : n ≤ l.length) (hz : ∀ j : Nat, n ≤ j → rd l (j : Int) = 0) :
    Ev (fun k => gnomonref01_Norm.l0 k l (n : Int)) (dg (vl l)) := by
  induction n with
  | zero =>
    refine Ev.step (f := fun k => gnomonref01_Norm.j1 k l 0 false) (fun k => by simp only [gnomonref01_Norm.l0]; rw [if_neg (by omega)]; rfl) ?_
    refine Ev.step (f := fun _ => some (dg (vl l))) (fun k => ?_) (Ev.now _)
    simp only [gnomonref01_Norm.j1]
    rw [if_neg (by decide), if_pos (by omega), if_pos (by omega), if_pos (by omega)]
    have := take_dg hD 0 (Nat.zero_le _) hz (Or.inl rfl)
    rw [← this]; rfl
  | succ n ih =>
    have e1 : wrap64 (((n + 1 : Nat) : Int) - 1) = (n : Int) := by rw [w64 (by omega) (by omega)]; omega
    by_cases h0 : rd l (n : Int) = 0
    · refine Ev.step (f := fun k => gnomonref01_Norm.j1 k l ((n + 1 : Nat) : Int) true) (fun k => ?_) ?_
      · simp only [gnomonref01_Norm.l0]
        rw [if_pos (by omega), e1, if_pos (by omega), if_pos (by omega), h0]; rfl
      · refine Ev.step (f := fun k => gnomonref01_Norm.l0 k l (n : Int)) (fun k => ?_) (ih (by omega) ?_)
        · simp only [gnomonref01_Norm.j1]
          rw [if_pos (by decide), e1]
        · intro j hj
          by_cases hjn : j = n
          · subst hjn; exact h0
          · exact hz j (by omega)
    · refine Ev.step (f := fun k => gnomonref01_Norm.j1 k l ((n + 1 : Nat) : Int) false) (fun k => ?_) ?_
      · simp only [gnomonref01_Norm.l0]
        rw [if_pos (by omega), e1, if_pos (by omega), if_pos (by omega)]
        congr 1
        exact beq_eq_false_iff_ne.2 h0
      · refine Ev.step (f := fun _ => some (dg (vl l))) (fun k => ?_) (Ev.now _)
        simp only [gnomonref01_Norm.j1]
        rw [if_neg (by decide), if_pos (by omega), if_pos (by omega), if_pos (by omega)]
        have e2 : ((n + 1 : Nat) : Int).toNat = n + 1 := by omega
        have := take_dg hD (n + 1) hn hz (Or.inr (by rw [show ((n + 1 : Nat) : Int) - 1 = (n : Int) from by omega]; exact h0))
        rw [e2, ← this, cpy_all _ _ (by rw [List.length_replicate, List.length_take]; omega)]
theorem norm_ev {l : List Int} (hD : Dg l) (hlen : l.length < 1099511627776) : Ev (fun k => gnomonref01_Norm.f k l) (dg (vl l)) :=
  norm_l0 hD hlen l.length (Nat.le_refl _) (fun _ hj => rd_out hj)
theorem norm_dg (n : Nat) (hlen : (dg n).length < 1099511627776) : Ev (fun k => gnomonref01_Norm.f k (dg n)) (dg n) := by
  have := norm_ev (dg_Dg n) hlen
  rwa [vl_dg] at this
theorem norm_to {l : List Int} {n : Nat} (hD : Dg l) (hlen : l.length < 1099511627776) (h : vl l = n) : Ev (fun k => gnomonref01_Norm.f k l) (dg n) := by
  rw [← h]; exact norm_ev hD hlen
theorem bind_some_ev {α : Type} {g : Nat → Option α} {r : α} (h : Ev g r) : Ev (fun k => (g k).bind fun t => some t) r := Ev.bind h (Ev.now _)
theorem word_ev (w : Int) (h0 : 0 ≤ w) (h1 : w < 18446744073709551616) : Ev (fun k => gnomonref01_Word.f k w) (dg w.toNat) := by
  unfold gnomonref01_Word.f
  refine bind_some_ev (norm_to ?_ (by simp) ?_)
  · rw [mask32 h0 h1]
    exact Dg.cons (by omega) (by omega) (Dg.cons (by omega) (by omega) Dg.nil)
  · rw [mask32 h0 h1]
    simp only [vl]
    have := B_eq
    rw [this]
    omega
end Go.Proofs.YthpnmkclboennaaDoor.Ref
