/- What the reference's functions on lists of digits answer (norm, sums, differences, comparison, products by a digit, shifts), told by numbers. Plain Lean over the printed functions. Conditions: lists of less than 2^40 digits. -/
import Derived.Test.YthpnmkclboennaaDoorKBinaryWidensNum
import Derived.Test.YthpnmkclboennaaDoorKBinaryWidensPLibx2
import Derived.Test.YthpnmkclboennaaDoorKBinaryWidensPLibx6
import Derived.Test.YthpnmkclboennaaDoorKBinaryWidensPLibx7
namespace Go.Proofs.YthpnmkclboennaaDoor.Ref
open Go.RowKit Go.Proofs.YthpnmkclboennaaDoorW.PrintWords Go.Proofs.YthpnmkclboennaaDoorW.PrintMore Go.Proofs.YthpnmkclboennaaDoor.Num Go.Proofs.YthpnmkclboennaaDoor.PLib
theorem cpy_all {α : Type} (a b : List α) (h : a.length = b.length) : cpy a b = b := by
  unfold cpy
  rw [h, List.take_length, List.drop_eq_nil_of_le (by omega), List.append_nil]
theorem norm_l0 {l : List Int} (hD : Dg l) (hlen : l.length < 1099511627776) (n : Nat) (hn : n ≤ l.length) (hz : ∀ j : Nat, n ≤ j → rd l (j : Int) = 0) :
    Ev (fun k => gnomonref01_Norm.l0 k l (n : Int)) (dg (vl l)) := by
  induction n with
  | zero =>
    refine Ev.step (f := fun k => gnomonref01_Norm.j1 k l 0 false) (fun k => by simp only [gnomonref01_Norm.l0]; rw [if_neg (by omega)]; rfl) ?_
    refine Ev.step (f := fun _ => some (dg (vl l))) (fun k => ?_) (Ev.now _)
    simp only [gnomonref01_Norm.j1]
    rw [if_neg (by decide), if_pos (by omega), if_pos (by omega), if_pos (by omega)]
    have := take_dg hD 0 (Nat.zero_le _) hz (Or.inl rfl)
    rw [← this]; rfl
  | succ n ih =>
    have e1 : wrap64 (((n + 1 : Nat) : Int) - 1) = (n : Int) := by rw [w64 (by omega) (by omega)]; omega
    by_cases h0 : rd l (n : Int) = 0
    · refine Ev.step (f := fun k => gnomonref01_Norm.j1 k l ((n + 1 : Nat) : Int) true) (fun k => ?_) ?_
      · simp only [gnomonref01_Norm.l0]
        rw [if_pos (by omega), e1, if_pos (by omega), if_pos (by omega), h0]; rfl
      · refine Ev.step (f := fun k => gnomonref01_Norm.l0 k l (n : Int)) (fun k => ?_) (ih (by omega) ?_)
        · simp only [gnomonref01_Norm.j1]
          rw [if_pos (by decide), e1]
        · intro j hj
          by_cases hjn : j = n
          · subst hjn; exact h0
          · exact hz j (by omega)
    · refine Ev.step (f := fun k => gnomonref01_Norm.j1 k l ((n + 1 : Nat) : Int) false) (fun k => ?_) ?_
      · simp only [gnomonref01_Norm.l0]
        rw [if_pos (by omega), e1, if_pos (by omega), if_pos (by omega)]
        congr 1
        exact beq_eq_false_iff_ne.2 h0
      · refine Ev.step (f := fun _ => some (dg (vl l))) (fun k => ?_) (Ev.now _)
        simp only [gnomonref01_Norm.j1]
        rw [if_neg (by decide), if_pos (by omega), if_pos (by omega), if_pos (by omega)]
        have e2 : ((n + 1 : Nat) : Int).toNat = n + 1 := by omega
        have := take_dg hD (n + 1) hn hz (Or.inr (by rw [show ((n + 1 : Nat) : Int) - 1 = (n : Int) from by omega]; exact h0))
        rw [e2, ← this, cpy_all _ _ (by rw [List.length_replicate, List.length_take]; omega)]
theorem norm_ev {l : List Int} (hD : Dg l) (hlen : l.length < 1099511627776) : Ev (fun k => gnomonref01_Norm.f k l) (dg (vl l)) :=
  norm_l0 hD hlen l.length (Nat.le_refl _) (fun _ hj => rd_out hj)
theorem norm_dg (n : Nat) (hlen : (dg n).length < 1099511627776) : Ev (fun k => gnomonref01_Norm.f k (dg n)) (dg n) := by
  have := norm_ev (dg_Dg n) hlen
  rwa [vl_dg] at this
theorem norm_to {l : List Int} {n : Nat} (hD : Dg l) (hlen : l.length < 1099511627776) (h : vl l = n) : Ev (fun k => gnomonref01_Norm.f k l) (dg n) := by
  rw [← h]; exact norm_ev hD hlen
theorem bind_some_ev {α : Type} {g : Nat → Option α} {r : α} (h : Ev g r) : Ev (fun k => (g k).bind fun t => some t) r := Ev.bind h (Ev.now _)
theorem word_ev (w : Int) (h0 : 0 ≤ w) (h1 : w < 18446744073709551616) : Ev (fun k => gnomonref01_Word.f k w) (dg w.toNat) := by
  unfold gnomonref01_Word.f
  refine bind_some_ev (norm_to ?_ (by simp) ?_)
  · rw [mask32 h0 h1]
    exact Dg.cons (by omega) (by omega) (Dg.cons (by omega) (by omega) Dg.nil)
  · rw [mask32 h0 h1]
    simp only [vl]
    have := B_eq
    rw [this]
    omega
theorem mk_ev (neg : Bool) (n : Nat) (hlen : (dg n).length < 1099511627776) : Ev (fun k => gnomonref04_Mk.f k neg (dg n)) (neg && decide (n ≠ 0), dg n) := by
  unfold gnomonref04_Mk.f
  refine Ev.bind (norm_dg n hlen) ?_
  cases neg
  · exact Ev.now _
  · rw [if_pos rfl]
    have : decide (0 < (dg n).length) = (true && decide (n ≠ 0)) := by
      rw [Bool.true_and]
      apply decide_eq_decide.2
      have := dg_len_zero (n := n)
      omega
    rw [this]; exact Ev.now _
def cmp3 (a b : Nat) : Int := if a < b then -1 else if b < a then 1 else 0
theorem cmp_l0 (a b : List Int) (ha : Dg a) (hb : Dg b) (hl : a.length = b.length) (hlen : a.length < 1099511627776) (n : Nat) (hn : n ≤ a.length)
    (he : vl a + pv b n = vl b + pv a n) :
    Ev (fun k => gnomonref01_Cmp.l0 k a b ((n : Int) - 1)) (cmp3 (vl a) (vl b)) := by
  induction n with
  | zero =>
    refine Ev.step (f := fun _ => some (cmp3 (vl a) (vl b))) (fun k => ?_) (Ev.now _)
    simp only [gnomonref01_Cmp.l0]
    rw [if_neg (by omega)]
    rw [pv_zero, pv_zero] at he
    unfold cmp3
    rw [if_neg (by omega), if_neg (by omega)]
  | succ n ih =>
    have e0 : ((n + 1 : Nat) : Int) - 1 = (n : Int) := by omega
    have ra := ha.rd (n : Int)
    have rb := hb.rd (n : Int)
    have pa := pv_lt ha n
    have pb := pv_lt hb n
    rw [pv_succ, pv_succ] at he
    rw [e0]
    have hP := Bp n
    by_cases h1 : rd a (n : Int) < rd b (n : Int)
    · refine Ev.step (f := fun _ => some (cmp3 (vl a) (vl b))) (fun k => ?_) (Ev.now _)
      simp only [gnomonref01_Cmp.l0]
      rw [if_pos (by omega), if_pos (by omega), if_pos (by omega), if_pos (by omega), if_pos h1]
      have : B^n * ((rd a (n : Int)).toNat + 1) ≤ B^n * (rd b (n : Int)).toNat := Nat.mul_le_mul_left _ (by omega)
      rw [Nat.mul_add, Nat.mul_one] at this
      unfold cmp3
      rw [if_pos (by omega)]
    · by_cases h2 : rd a (n : Int) > rd b (n : Int)
      · refine Ev.step (f := fun _ => some (cmp3 (vl a) (vl b))) (fun k => ?_) (Ev.now _)
        simp only [gnomonref01_Cmp.l0]
        rw [if_pos (by omega), if_pos (by omega), if_pos (by omega), if_pos (by omega), if_neg h1, if_pos h2]
        have : B^n * ((rd b (n : Int)).toNat + 1) ≤ B^n * (rd a (n : Int)).toNat := Nat.mul_le_mul_left _ (by omega)
        rw [Nat.mul_add, Nat.mul_one] at this
        unfold cmp3
        rw [if_neg (by omega), if_pos (by omega)]
      · refine Ev.step (f := fun k => gnomonref01_Cmp.l0 k a b ((n : Int) - 1)) (fun k => ?_) (ih (by omega) ?_)
        · simp only [gnomonref01_Cmp.l0]
          rw [if_pos (by omega), if_pos (by omega), if_pos (by omega), if_pos (by omega), if_neg h1, if_neg h2, w64 (by omega) (by omega)]
        · have : rd a (n : Int) = rd b (n : Int) := by omega
          rw [this] at he; omega
theorem cmp_ev (m n : Nat) (hm : (dg m).length < 1099511627776) (_hn : (dg n).length < 1099511627776) : Ev (fun k => gnomonref01_Cmp.f k (dg m) (dg n)) (cmp3 m n) := by
  unfold gnomonref01_Cmp.f
  by_cases h : ((dg m).length : Int) = ((dg n).length : Int)
  · simp only [if_pos h]
    have := cmp_l0 (dg m) (dg n) (dg_Dg m) (dg_Dg n) (by omega) hm (dg m).length (Nat.le_refl _) (by rw [pv_all (by omega), pv_all (Nat.le_refl _)]; omega)
    rw [vl_dg, vl_dg] at this
    rw [w64 (by omega) (by omega)]
    exact this
  · simp only [if_neg h]
    by_cases h2 : ((dg m).length : Int) < ((dg n).length : Int)
    · simp only [if_pos h2]
      have : m < n := by
        by_cases hc : m < n
        · exact hc
        · have := dg_len_mono (show n ≤ m by omega); omega
      unfold cmp3; rw [if_pos this]; exact Ev.now _
    · simp only [if_neg h2]
      have : n < m := by
        by_cases hc : n < m
        · exact hc
        · have := dg_len_mono (show m ≤ n by omega); omega
      unfold cmp3; rw [if_neg (by omega), if_pos this]; exact Ev.now _
theorem digit_split (c P v S : Nat) (h : v + P * c = S) : v + P * (c % B) + P * B * (c / B) = S := by
  have := Nat.mod_add_div c B
  rw [Nat.mul_assoc, Nat.add_assoc, ← Nat.mul_add, this, h]
theorem next_i (i : Nat) (hi : i < 1099511627776) : wrap64 ((i : Int) + 1) = ((i + 1 : Nat) : Int) := by rw [w64 (by omega) (by omega)]; omega
end Go.Proofs.YthpnmkclboennaaDoor.Ref
