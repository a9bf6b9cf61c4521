/- What the reference's functions on lists of digits answer (norm, sums, differences, comparison, products by a digit, shifts), told by numbers. Plain Lean over the printed functions. Conditions: lists of less than 2^40 digits. -/
import Derived.Test.YtelfmddcjlocpaaGreatDoorKRoundQuotedBl
import Derived.Test.YtelfmddcjlocpaaGreatDoorKRoundQuotedPRfzx0
import Derived.Test.YtelfmddcjlocpaaGreatDoorKRoundQuotedPxRfz
import Derived.Test.YtelfmddcjlocpaaGreatDoorKRoundQuotedPRefx1
import Derived.Test.YtelfmddcjlocpaaGreatDoorKRoundQuotedPxQ0
import Derived.Test.YtelfmddcjlocpaaGreatDoorKRoundQuotedPRefx2
import Derived.Test.YtelfmddcjlocpaaGreatDoorKRoundQuotedPRefx3
namespace Go.Proofs.YtelfmddcjlocpaaGreatDoor.Ref
open Go.RowKit Go.Proofs.YtelfmddcjlocpaaGreatDoorW.PrintWords Go.Proofs.YtelfmddcjlocpaaGreatDoorW.PrintMore Go.Proofs.YtelfmddcjlocpaaGreatDoor.Num Go.Proofs.YtelfmddcjlocpaaGreatDoor.PLib Go.Proofs.YtelfmddcjlocpaaGreatDoor.PRef Go.Proofs.YtelfmddcjlocpaaGreatDoor.PRfz
theorem cpy_all {α : Type} (a b : List α) (h : a.length = b.length) : cpy a b = b := by
 unfold cpy
 rw [h, List.take_length, List.drop_eq_nil_of_le (by omega), List.append_nil]
theorem norm_l0 {l : List Int} (hD : Dg l) (hlen : l.length < 1099511627776) (n : Nat) (hn : n ≤ l.length) (hz : ∀ j : Nat, n ≤ j → rd l (j : Int) = 0) :
  Ev (fun k => gnomonref01_Norm.l0 k l (n : Int)) (dg (vl l)) := by
 induction n with
 | zero =>
  refine Ev.step (f := fun k => gnomonref01_Norm.j1 k l 0 false) (fun k => by simp only [gnomonref01_Norm.l0]; rw [if_neg (by omega)]; rfl) ?_
  refine Ev.step (f := fun _ => some (dg (vl l))) (fun k => ?_) (Ev.now _)
  simp only [gnomonref01_Norm.j1]
  rw [if_neg (by decide), if_pos (by omega), if_pos (by omega), if_pos (by omega)]
  have := take_dg hD 0 (Nat.zero_le _) hz (Or.inl rfl)
  rw [← this]; rfl
 | succ n ih =>
  have e1 : wrap64 (((n + 1 : Nat) : Int) - 1) = (n : Int) := by rw [w64 (by omega) (by omega)]; omega
  by_cases h0 : rd l (n : Int) = 0
  ·refine Ev.step (f := fun k => gnomonref01_Norm.j1 k l ((n + 1 : Nat) : Int) true) (fun k => ?_) ?_
   ·simp only [gnomonref01_Norm.l0]
    rw [if_pos (by omega), e1, if_pos (by omega), if_pos (by omega), h0]; rfl
   ·refine Ev.step (f := fun k => gnomonref01_Norm.l0 k l (n : Int)) (fun k => ?_) (ih (by omega) ?_)
    ·simp only [gnomonref01_Norm.j1]
     rw [if_pos (by decide), e1]
    ·intro j hj
     by_cases hjn : j = n
     ·subst hjn; exact h0
     ·exact hz j (by omega)
  ·refine Ev.step (f := fun k => gnomonref01_Norm.j1 k l ((n + 1 : Nat) : Int) false) (fun k => ?_) ?_
   ·simp only [gnomonref01_Norm.l0]
    rw [if_pos (by omega), e1, if_pos (by omega), if_pos (by omega)]
    congr 1
    exact beq_eq_false_iff_ne.2 h0
   ·refine Ev.step (f := fun _ => some (dg (vl l))) (fun k => ?_) (Ev.now _)
    simp only [gnomonref01_Norm.j1]
    rw [if_neg (by decide), if_pos (by omega), if_pos (by omega), if_pos (by omega)]
    have e2 : ((n + 1 : Nat) : Int).toNat = n + 1 := by omega
    have := take_dg hD (n + 1) hn hz (Or.inr (by rw [show ((n + 1 : Nat) : Int) - 1 = (n : Int) from by omega]; exact h0))
    rw [e2, ← this, cpy_all _ _ (by rw [List.length_replicate, List.length_take]; omega)]
theorem norm_ev {l : List Int} (hD : Dg l) (hlen : l.length < 1099511627776) : Ev (fun k => gnomonref01_Norm.f k l) (dg (vl l)) :=
 norm_l0 hD hlen l.length (Nat.le_refl _) (fun _ hj => rd_out hj)
theorem norm_dg (n : Nat) (hlen : (dg n).length < 1099511627776) : Ev (fun k => gnomonref01_Norm.f k (dg n)) (dg n) := by
 have := norm_ev (dg_Dg n) hlen
 rwa [vl_dg] at this
theorem norm_to {l : List Int} {n : Nat} (hD : Dg l) (hlen : l.length < 1099511627776) (h : vl l = n) : Ev (fun k => gnomonref01_Norm.f k l) (dg n) := by
 rw [← h]; exact norm_ev hD hlen
theorem bind_some_ev {α : Type} {g : Nat → Option α} {r : α} (h : Ev g r) : Ev (fun k => (g k).bind fun t => some t) r := Ev.bind h (Ev.now _)
theorem word_ev (w : Int) (h0 : 0 ≤ w) (h1 : w < 18446744073709551616) : Ev (fun k => gnomonref01_Word.f k w) (dg w.toNat) := by
 unfold gnomonref01_Word.f
 refine bind_some_ev (norm_to ?_ (by simp) ?_)
 ·rw [mask32 h0 h1]
  exact Dg.cons (by omega) (by omega) (Dg.cons (by omega) (by omega) Dg.nil)
 ·rw [mask32 h0 h1]
  simp only [vl]
  have := B_eq
  rw [this]
  omega
def cmp3 (a b : Nat) : Int := if a < b then -1 else if b < a then 1 else 0
theorem cmp_l0 (a b : List Int) (ha : Dg a) (hb : Dg b) (hl : a.length = b.length) (hlen : a.length < 1099511627776) (n : Nat) (hn : n ≤ a.length)
  (he : vl a + pv b n = vl b + pv a n) :
  Ev (fun k => gnomonref01_Cmp.l0 k a b ((n : Int) - 1)) (cmp3 (vl a) (vl b)) := by
 induction n with
 | zero =>
  refine Ev.step (f := fun _ => some (cmp3 (vl a) (vl b))) (fun k => ?_) (Ev.now _)
  simp only [gnomonref01_Cmp.l0]
  rw [if_neg (by omega)]
  rw [pv_zero, pv_zero] at he
  unfold cmp3
  rw [if_neg (by omega), if_neg (by omega)]
 | succ n ih =>
  have e0 : ((n + 1 : Nat) : Int) - 1 = (n : Int) := by omega
  have ra := ha.rd (n : Int)
  have rb := hb.rd (n : Int)
  have pa := pv_lt ha n
  have pb := pv_lt hb n
  rw [pv_succ, pv_succ] at he
  rw [e0]
  have hP := Bp n
  by_cases h1 : rd a (n : Int) < rd b (n : Int)
  ·refine Ev.step (f := fun _ => some (cmp3 (vl a) (vl b))) (fun k => ?_) (Ev.now _)
   simp only [gnomonref01_Cmp.l0]
   rw [if_pos (by omega), if_pos (by omega), if_pos (by omega), if_pos (by omega), if_pos h1]
   have : B^n * ((rd a (n : Int)).toNat + 1) ≤ B^n * (rd b (n : Int)).toNat := Nat.mul_le_mul_left _ (by omega)
   rw [Nat.mul_add, Nat.mul_one] at this
   unfold cmp3
   rw [if_pos (by omega)]
  ·by_cases h2 : rd a (n : Int) > rd b (n : Int)
   ·refine Ev.step (f := fun _ => some (cmp3 (vl a) (vl b))) (fun k => ?_) (Ev.now _)
    simp only [gnomonref01_Cmp.l0]
    rw [if_pos (by omega), if_pos (by omega), if_pos (by omega), if_pos (by omega), if_neg h1, if_pos h2]
    have : B^n * ((rd b (n : Int)).toNat + 1) ≤ B^n * (rd a (n : Int)).toNat := Nat.mul_le_mul_left _ (by omega)
    rw [Nat.mul_add, Nat.mul_one] at this
    unfold cmp3
    rw [if_neg (by omega), if_pos (by omega)]
   ·refine Ev.step (f := fun k => gnomonref01_Cmp.l0 k a b ((n : Int) - 1)) (fun k => ?_) (ih (by omega) ?_)
    ·simp only [gnomonref01_Cmp.l0]
     rw [if_pos (by omega), if_pos (by omega), if_pos (by omega), if_pos (by omega), if_neg h1, if_neg h2, w64 (by omega) (by omega)]
    ·have : rd a (n : Int) = rd b (n : Int) := by omega
     rw [this] at he; omega
theorem cmp_ev (m n : Nat) (hm : (dg m).length < 1099511627776) (_hn : (dg n).length < 1099511627776) : Ev (fun k => gnomonref01_Cmp.f k (dg m) (dg n)) (cmp3 m n) := by
 unfold gnomonref01_Cmp.f
 by_cases h : ((dg m).length : Int) = ((dg n).length : Int)
 ·simp only [if_pos h]
  have := cmp_l0 (dg m) (dg n) (dg_Dg m) (dg_Dg n) (by omega) hm (dg m).length (Nat.le_refl _) (by rw [pv_all (by omega), pv_all (Nat.le_refl _)]; omega)
  rw [vl_dg, vl_dg] at this
  rw [w64 (by omega) (by omega)]
  exact this
 ·simp only [if_neg h]
  by_cases h2 : ((dg m).length : Int) < ((dg n).length : Int)
  ·simp only [if_pos h2]
   have : m < n := by
    by_cases hc : m < n
    ·exact hc
    ·have := dg_len_mono (show n ≤ m by omega); omega
   unfold cmp3; rw [if_pos this]; exact Ev.now _
  ·simp only [if_neg h2]
   have : n < m := by
    by_cases hc : n < m
    ·exact hc
    ·have := dg_len_mono (show m ≤ n by omega); omega
   unfold cmp3; rw [if_neg (by omega), if_pos this]; exact Ev.now _
theorem digit_split (c P v S : Nat) (h : v + P * c = S) : v + P * (c % B) + P * B * (c / B) = S := by
 have := Nat.mod_add_div c B
 rw [Nat.mul_assoc, Nat.add_assoc, ← Nat.mul_add, this, h]
theorem next_i (i : Nat) (hi : i < 1099511627776) : wrap64 ((i : Int) + 1) = ((i + 1 : Nat) : Int) := by rw [w64 (by omega) (by omega)]; omega
theorem add_j2_eq (k : Nat) (a b s : List Int) (c : Int) (i : Nat) (h0 : 0 ≤ c) (h1 : c < 8589934592) (r0 : 0 ≤ rd b (i : Int)) (r1 : rd b (i : Int) < 4294967296) (hs : s.length < 1099511627777) (hi : i < 1099511627776) :
  gnomonref01_Add.j2 (k + 1) a b s c (i : Int) = gnomonref01_Add.l0 k a b (s ++ [(c + rd b (i : Int)) % 4294967296]) ((c + rd b (i : Int)) / 4294967296) ((i + 1 : Nat) : Int) := by
 have e3 := next_i i hi
 simp only [gnomonref01_Add.j2]
 rcases Nat.lt_or_ge i b.length with hb' | hb'
 ·rw [if_pos (by omega), if_pos (by omega), if_pos (by omega), wu64 r0 (by omega), wu64 (by omega) (by omega), mask32 (by omega) (by omega), e3, Int.emod_emod]
 ·have hz := rd_out hb'
  rw [if_neg (by omega), if_pos (by omega), mask32 (by omega) (by omega), e3, Int.emod_emod, hz, Int.add_zero]
theorem add_j1_eq (k : Nat) (a b s : List Int) (c : Int) (i : Nat) (h0 : 0 ≤ c) (h1 : c ≤ 1) (r0 : 0 ≤ rd a (i : Int)) (r1 : rd a (i : Int) < 4294967296) :
  gnomonref01_Add.j1 (k + 1) a b s c (i : Int) true = gnomonref01_Add.j2 k a b s (c + rd a (i : Int)) (i : Int) := by
 simp only [gnomonref01_Add.j1]
 rw [if_pos (by decide)]
 rcases Nat.lt_or_ge i a.length with ha' | ha'
 ·rw [if_pos (by omega), if_pos (by omega), wu64 r0 (by omega), wu64 (by omega) (by omega)]
 ·have hz := rd_out ha'
  rw [if_neg (by omega), hz, Int.add_zero]
theorem add_l0_go (k : Nat) (a b s : List Int) (c : Int) (i : Nat) (h : i < a.length ∨ i < b.length ∨ c > 0) :
  gnomonref01_Add.l0 (k + 1) a b s c (i : Int) = gnomonref01_Add.j1 k a b s c (i : Int) true := by
 simp only [gnomonref01_Add.l0]
 by_cases c1 : i < a.length
 ·rw [if_pos (by omega)]
 ·rw [if_neg (by omega)]
  by_cases c2 : i < b.length
  ·rw [if_pos (by omega)]
  ·rw [if_neg (by omega)]
   have : c > 0 := by omega
   rw [decide_eq_true this]
theorem add_l0_end (a b s : List Int) (i : Nat) (h1 : a.length ≤ i) (h2 : b.length ≤ i) {r : List Int} (h : Ev (fun k => gnomonref01_Norm.f k s) r) :
  Ev (fun k => gnomonref01_Add.l0 k a b s 0 (i : Int)) r := by
 refine Ev.step (f := fun k => gnomonref01_Add.j1 k a b s 0 (i : Int) false) (fun k => ?_) ?_
 ·simp only [gnomonref01_Add.l0]
  rw [if_neg (by omega), if_neg (by omega)]; rfl
 ·refine Ev.step (f := fun k => (gnomonref01_Norm.f k s).bind fun t => some t) (fun k => by simp only [gnomonref01_Add.j1]; rw [if_neg (by decide)]) ?_
  exact bind_some_ev h
theorem add_val {vs P c ra rb pa pb : Nat} (hv : vs + P * c = pa + pb) : vs + P * ((c + ra + rb) % B) + P * B * ((c + ra + rb) / B) = pa + P * ra + (pb + P * rb) := by
 refine digit_split _ _ _ _ ?_
 rw [Nat.mul_add, Nat.mul_add]; omega
theorem toNat_split {c ra rb : Int} (h0 : 0 ≤ c) (h1 : 0 ≤ ra) (h2 : 0 ≤ rb) :
  ((c + ra + rb) % 4294967296).toNat = (c.toNat + ra.toNat + rb.toNat) % B ∧ ((c + ra + rb) / 4294967296).toNat = (c.toNat + ra.toNat + rb.toNat) / B := by
 have hbase := B_eq
 rw [hbase]; omega
theorem add_l0 (a b : List Int) (ha : Dg a) (hb : Dg b) (hla : a.length < 1099511627775) (hlb : b.length < 1099511627775) (d : Nat) :
  ∀ (i : Nat) (s : List Int) (c : Int), max a.length b.length + 1 - i = d → i ≤ max a.length b.length + 1 → s.length = i → Dg s → 0 ≤ c → c ≤ 1 → (i = max a.length b.length + 1 → c = 0) →
   vl s + B^i * c.toNat = pv a i + pv b i → Ev (fun k => gnomonref01_Add.l0 k a b s c (i : Int)) (dg (vl a + vl b)) := by
 have fin : ∀ (i : Nat) (s : List Int), a.length ≤ i → b.length ≤ i → i ≤ max a.length b.length + 1 → s.length = i → Dg s → vl s + B^i * (0 : Int).toNat = pv a i + pv b i → Ev (fun k => gnomonref01_Add.l0 k a b s 0 (i : Int)) (dg (vl a + vl b)) := by
  intro i s h1 h2 h3 hs hDs hv
  refine add_l0_end a b s i h1 h2 (norm_to hDs (by omega) ?_)
  rw [pv_all h1, pv_all h2] at hv
  simpa using hv
 induction d with
 | zero =>
  intro i s c hd hi hs hDs h0 h1 hend hv
  have hc : c = 0 := hend (by omega)
  subst hc
  exact fin i s (by omega) (by omega) hi hs hDs hv
 | succ d ih =>
  intro i s c hd hi hs hDs h0 h1 hend hv
  have ra := ha.rd (i : Int)
  have rb := hb.rd (i : Int)
  by_cases hgo : i < a.length ∨ i < b.length ∨ c > 0
  ·have hnext : Ev (fun k => gnomonref01_Add.l0 k a b (s ++ [(c + rd a (i : Int) + rd b (i : Int)) % 4294967296]) ((c + rd a (i : Int) + rd b (i : Int)) / 4294967296) ((i + 1 : Nat) : Int)) (dg (vl a + vl b)) := by
    have hts := toNat_split h0 ra.1 rb.1
    refine ih (i + 1) _ _ (by omega) (by omega) (by rw [List.length_append, hs]; rfl) (hDs.snoc (Int.emod_nonneg _ (by decide)) (Int.emod_lt_of_pos _ (by decide))) (Int.ediv_nonneg (by omega) (by decide)) (by omega) ?_ ?_
    ·intro he
     have h1 : rd a (i : Int) = 0 := rd_out (by omega)
     have h2 : rd b (i : Int) = 0 := rd_out (by omega)
     rw [h1, h2]; omega
    ·rw [vl_snoc, hs, pv_succ, pv_succ, Nat.pow_succ, hts.1, hts.2]
     exact add_val hv
   refine Ev.step (fun k => add_l0_go k a b s c i hgo) ?_
   refine Ev.step (fun k => add_j1_eq k a b s c i h0 h1 ra.1 ra.2) ?_
   exact Ev.step (fun k => add_j2_eq k a b s _ i (by omega) (by omega) rb.1 rb.2 (by omega) (by omega)) hnext
  ·have hc : c = 0 := by omega
   subst hc
   exact fin i s (by omega) (by omega) hi hs hDs hv
theorem mx_nat (a b : Nat) : mx (a : Int) (b : Int) = ((max a b : Nat) : Int) := by unfold mx; split <;> omega
theorem add_ev (m n : Nat) (hm : (dg m).length < 1099511627775) (hn : (dg n).length < 1099511627775) : Ev (fun k => gnomonref01_Add.f k (dg m) (dg n)) (dg (m + n)) := by
 unfold gnomonref01_Add.f
 rw [mx_nat, w64 (by omega) (by omega)]
 have c1 : (0 : Int) ≤ ((max (dg m).length (dg n).length : Nat) : Int) + 1 := by omega
 have c2 : (((max (dg m).length (dg n).length : Nat) : Int) + 1).toNat ≤ 70368744177664 := by omega
 simp only [if_pos c1, if_pos c2]
 have := add_l0 (dg m) (dg n) (dg_Dg m) (dg_Dg n) hm hn _ 0 [] 0 rfl (by omega) rfl Dg.nil (by omega) (by omega) (by omega) (by simp [vl, pv_zero])
 rw [vl_dg, vl_dg] at this
 exact this
end Go.Proofs.YtelfmddcjlocpaaGreatDoor.Ref
