/- The reference's questions of products, and how little is missed: what they answer. Plain Lean over the printed functions. Conditions: none beyond the statements' own. -/
import Derived.Test.YtbgmadijifefiaaKEftSidesSumsLaw
import Derived.Test.YtbgmadijifefiaaKEftSidesProdB
import Derived.Test.YtbgmadijifefiaaKEftSidesRefH
import Derived.Test.YtbgmadijifefiaaKEftSidesPLibx13
import Derived.Test.YtbgmadijifefiaaKEftSidesPLibx14
namespace Go.Proofs.Ytbgmadijifefiaa.ProdsLaw
open Go.RowKit Go.Proofs.YtbgmadijifefiaaW.PrintWords Go.Proofs.YtbgmadijifefiaaW.PrintMore Go.Proofs.Ytbgmadijifefiaa.Num Go.Proofs.Ytbgmadijifefiaa.PLib Go.Proofs.Ytbgmadijifefiaa.Ref Go.Proofs.Ytbgmadijifefiaa.FW Go.Proofs.Ytbgmadijifefiaa.Eft Go.Proofs.Ytbgmadijifefiaa.EftLaw Go.Proofs.Ytbgmadijifefiaa.SumsLaw Fl
def FairP (g a b : Nat) : Prop := sz a ≤ 2018 * 2^52 ∧ sz b ≤ 2018 * 2^52 ∧ (U a * U b = 0 ∨ (2^(g + 114) ≤ (U a * U b).natAbs ∧ (U a * U b).natAbs ≤ 2^(g + 2095)))
theorem top2095 (g : Nat) : 2^(g + 2095) = 2^50 * T0 * 2^g := by
  obtain ⟨n, hn⟩ : ∃ n, n = 2095 := ⟨_, rfl⟩
  have e : g + n = 50 + TE + g := by have := TE_eq; omega
  rw [← hn, e, Nat.pow_add, Nat.pow_add]; rfl
theorem Zs_prod {a b : Nat} (ha : (U a).natAbs ≤ 2^24 * T0) (hb : (U b).natAbs ≤ 2^24 * T0) : Zs (U a * U b) := by
  have h := Nat.mul_le_mul ha hb
  have e : 2^24 * T0 * (2^24 * T0) = 2^(48 + 2 * TE) := by
    unfold T0
    rw [← Nat.pow_add, ← Nat.pow_add]; congr 1; omega
  rw [← Int.natAbs_mul, e] at h
  exact Zs_of (k := 48 + 2 * TE + 1) (Nat.lt_of_le_of_lt h (Nat.pow_lt_pow_right (by decide) (by omega))) (by have := TE_eq; omega)
theorem cmp3_ge {m n : Nat} : cmp3 m n ≥ 0 ↔ n ≤ m := by unfold cmp3; split <;> (try split) <;> omega
theorem cmp3_le {m n : Nat} : cmp3 m n ≤ 0 ↔ m ≤ n := by unfold cmp3; split <;> (try split) <;> omega
theorem sgn_zero {v : Int} : sgn v = 0 ↔ v = 0 := by unfold sgn; split <;> (try split) <;> omega
theorem pow_len (n : Nat) (h : n ≤ 1000000) : (dg (2^n)).length < 274877906944 :=
  dg_len_bits (k := n + 1) (Nat.pow_lt_pow_right (by decide) (by omega)) (by omega)
theorem fair_ev {g a b : Nat} (hg : g = 1074) (ha : a < 18446744073709551616) (hb : b < 18446744073709551616) :
    ∃ c : Bool, (c = true ↔ FairP g a b) ∧ Ev (fun k => gnomonref19_Fair.f k (a : Int) (b : Int)) c := by
  have hA := atMost_f a 995 (by decide)
  have hB := atMost_f b 995 (by decide)
  have hno : Ev (fun k => gnomonref19_Fair.j0 k (a : Int) (b : Int) true) false :=
    Ev.step (f := fun _ => some false) (fun k => by simp only [gnomonref19_Fair.j0]; rw [if_pos trivial]) (Ev.now _)
  unfold gnomonref19_Fair.f
  rw [show (995 : Int) = ((995 : Nat) : Int) from rfl]
  simp only [hA, hB, Option.bind_some]
  by_cases c1 : sz a ≤ (995 + 1023) * 2^52
  · simp only [decide_eq_true c1, if_true]
    by_cases c2 : sz b ≤ (995 + 1023) * 2^52
    · simp only [decide_eq_true c2, Bool.not_true]
      obtain ⟨fa, ba⟩ := atMost_995 c1
      obtain ⟨fb, bb⟩ := atMost_995 c2
      have zab := Zs_prod ba bb
      have hprod := product_ev a b ha hb (Zs_top0 (U_top fa)) (Zs_top0 (U_top fb)) zab
      obtain ⟨n1, hn1⟩ : ∃ n, n = g + 114 := ⟨_, rfl⟩
      obtain ⟨n2, hn2⟩ : ∃ n, n = g + 2095 := ⟨_, rfl⟩
      have i1 : (1188 : Int) = ((n1 : Nat) : Int) := by omega
      have i2 : (3169 : Int) = ((n2 : Nat) : Int) := by omega
      have hstep : ∀ k, gnomonref19_Fair.j0 (k + 1) (a : Int) (b : Int) false = (gnomonref19_Product.f k (a : Int) (b : Int)).bind fun bt527 => ((gnomonref04_Sign.f bt527.1 bt527.2).bind fun t532 => (if t532 = 0 then (some true) else ((gnomonref01_Pow2.f k (n1 : Int)).bind fun t533 => ((gnomonref01_Cmp.f k bt527.2 t533).bind fun t536 => (if t536 ≥ 0 then ((gnomonref01_Pow2.f k (n2 : Int)).bind fun t537 => ((gnomonref01_Cmp.f k bt527.2 t537).bind fun t540 => (some (decide (t540 ≤ 0))))) else (some false)))))) := by
        intro k
        simp only [gnomonref19_Fair.j0]
        rw [if_neg (by decide), i1, i2]
      have hF : FairP g a b ↔ (U a * U b = 0 ∨ (2^n1 ≤ (U a * U b).natAbs ∧ (U a * U b).natAbs ≤ 2^n2)) := by
        unfold FairP
        rw [hn1, hn2]
        exact ⟨fun h => h.2.2, fun h => ⟨c1, c2, h⟩⟩
      have go : ∀ c : Bool, Ev (fun k => if sgn (U a * U b) = 0 then (some true) else ((gnomonref01_Pow2.f k (n1 : Int)).bind fun t533 => ((gnomonref01_Cmp.f k (zl (U a * U b)) t533).bind fun t536 => (if t536 ≥ 0 then ((gnomonref01_Pow2.f k (n2 : Int)).bind fun t537 => ((gnomonref01_Cmp.f k (zl (U a * U b)) t537).bind fun t540 => (some (decide (t540 ≤ 0))))) else (some false))))) c →
          Ev (fun k => gnomonref19_Fair.j0 k (a : Int) (b : Int) false) c := by
        intro c h
        refine Ev.step hstep (Ev.bind hprod ?_)
        simp only [zsign, Option.bind_some]
        exact h
      by_cases h0 : U a * U b = 0
      · refine ⟨true, ⟨fun _ => hF.2 (Or.inl h0), fun _ => rfl⟩, go true ?_⟩
        have := sgn_zero.2 h0
        simp only [if_pos this]
        exact Ev.now _
      · have s0 : ¬ sgn (U a * U b) = 0 := fun e => h0 (sgn_zero.1 e)
        have zab' : (dg (U a * U b).natAbs).length < 274877906944 := zab
        have q1 := pow2_ev n1 (by omega)
        have q2 := pow2_ev n2 (by omega)
        have r1 : Ev (fun k => gnomonref01_Cmp.f k (zl (U a * U b)) (dg (2^n1))) (cmp3 (U a * U b).natAbs (2^n1)) := cmp_ev _ _ (by omega) (by have := pow_len n1 (by omega); omega)
        have r2 : Ev (fun k => gnomonref01_Cmp.f k (zl (U a * U b)) (dg (2^n2))) (cmp3 (U a * U b).natAbs (2^n2)) := cmp_ev _ _ (by omega) (by have := pow_len n2 (by omega); omega)
        by_cases c3 : 2^n1 ≤ (U a * U b).natAbs
        · refine ⟨decide (cmp3 (U a * U b).natAbs (2^n2) ≤ 0), ⟨fun h => hF.2 (Or.inr ⟨c3, cmp3_le.1 (of_decide_eq_true h)⟩), fun h => decide_eq_true (cmp3_le.2 ((hF.1 h).elim (fun h => absurd h h0) (fun h => h.2)))⟩, go _ ?_⟩
          simp only [if_neg s0]
          refine Ev.bind q1 (Ev.bind r1 ?_)
          have := cmp3_ge.2 c3
          simp only [if_pos this]
          exact Ev.bind q2 (Ev.bind r2 (Ev.now _))
        · refine ⟨false, ⟨fun h => absurd h (by decide), fun h => (hF.1 h).elim (fun h => absurd h h0) (fun h => absurd h.1 c3)⟩, go _ ?_⟩
          simp only [if_neg s0]
          refine Ev.bind q1 (Ev.bind r1 ?_)
          have : ¬ cmp3 (U a * U b).natAbs (2^n1) ≥ 0 := fun h => c3 (cmp3_ge.1 h)
          simp only [if_neg this]
          exact Ev.now _
    · simp only [decide_eq_false c2, Bool.not_false]
      exact ⟨false, ⟨fun h => absurd h (by decide), fun h => absurd h.2.1 c2⟩, hno⟩
  · simp only [decide_eq_false c1, Bool.false_eq_true, if_false]
    exact ⟨false, ⟨fun h => absurd h (by decide), fun h => absurd h.1 c1⟩, hno⟩
theorem fair_law {g a b p e : Nat} (hg : g = 1074) (hR : ProdR a b p e) (hF : FairP g a b) :
    Is g (U a * U b) p ∧ fin e ∧ (U p).natAbs ≤ 2^50 * T0 ∧ (U p + U e) * 2^g = U a * U b ∧ 2^53 * (U e).natAbs ≤ (U p).natAbs := by
  obtain ⟨h1, h2, h3⟩ := hF
  refine prod_law hg hR h1 h2 (h3.imp id And.left) ?_
  rcases h3 with h | h
  · rw [h]; exact Nat.zero_le _
  · rw [← top2095]; exact h.2
end Go.Proofs.Ytbgmadijifefiaa.ProdsLaw
