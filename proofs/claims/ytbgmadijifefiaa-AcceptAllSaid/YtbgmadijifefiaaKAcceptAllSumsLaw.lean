/- TwoSum and FastTwoSum answer as the document's exact sums say, and the statements' calls return true. Conditions: none beyond the statements' own. -/
import Derived.Test.YtbgmadijifefiaaKAcceptAllAwake
import Derived.Test.YtbgmadijifefiaaKAcceptAllRefF
import Derived.Test.YtbgmadijifefiaaKAcceptAllPLibx9
import Derived.Test.YtbgmadijifefiaaKAcceptAllPLibx1
import Derived.Test.YtbgmadijifefiaaKAcceptAllPLibx2
namespace Go.Proofs.Ytbgmadijifefiaa.SumsLaw
open Go.RowKit Go.Proofs.YtbgmadijifefiaaW.PrintWords Go.Proofs.YtbgmadijifefiaaW.PrintMore Go.Proofs.Ytbgmadijifefiaa.Num Go.Proofs.Ytbgmadijifefiaa.PLib Go.Proofs.Ytbgmadijifefiaa.Ref Go.Proofs.Ytbgmadijifefiaa.FW Go.Proofs.Ytbgmadijifefiaa.Eft Go.Proofs.Ytbgmadijifefiaa.EftLaw Fl
theorem atMost_f (a : Nat) (e : Nat) (he : e ≤ 1023) : gnomonref19_AtMost.f (a : Int) (e : Int) = some (decide (sz a ≤ (e + 1023) * 2^52)) := by
 have e1 : wrap64 ((e : Int) + 1023) = ((e + 1023 : Nat) : Int) := by rw [w64 (by omega) (by omega)]; omega
 have e2 : IntKind.u64.wrap ((e + 1023 : Nat) : Int) = ((e + 1023 : Nat) : Int) := wu64 (by omega) (by omega)
 have e3 : IntKind.u64.wrap (((e + 1023 : Nat) : Int) * 4503599627370496) = (((e + 1023) * 2^52 : Nat) : Int) := by
  have h52 : (2:Nat)^52 = 4503599627370496 := by decide
  rw [h52, wu64 (by omega) (by omega)]; omega
 unfold gnomonref19_AtMost.f gnomonref19_Size.f gnomonref19_Pow.f
 simp only [Option.bind_some, sz_int, e1, e2, e3]
 congr 1
 exact decide_eq_decide.2 (by omega)
theorem same_f {x y : Nat} (h : alike x y) : gnomonref19_Same.f (x : Int) (y : Int) = some true := by
 unfold gnomonref19_Same.f gnomonref19_Size.f
 rcases h with h | ⟨h1, h2⟩
 ·rw [if_pos (by omega)]
 ·by_cases e : (x : Int) = (y : Int)
  ·rw [if_pos e]
  ·rw [if_neg e, Option.bind_some, sz_int, if_pos (by omega), Option.bind_some, sz_int, h2]; rfl
theorem finite_f {x : Nat} (h : fin x) : gnomonref19_Finite.f (x : Int) = some true := by
 unfold gnomonref19_Finite.f gnomonref19_Size.f
 have hI : INF = 9218868437227405312 := by decide
 unfold fin at h
 rw [Option.bind_some, sz_int, decide_eq_true (by omega)]
theorem is_rpat {g : Nat} {v : Int} {r : Nat} (h : Is g v r) (hm : v.natAbs ≤ top g) : ∃ p : Nat, rpat g v = (p : Int) ∧ alike r p := by
 have hlt := rung_fin hm
 have hI : INF = 9218868437227405312 := by decide
 have hval : mg (sz r) * 2^g = mg (rung g v.natAbs) * 2^g := by
  rw [mg_rung, ← rnI_natAbs, ← h.val, Int.natAbs_mul, Int.natAbs_pow, U_natAbs]; rfl
 have hs : sz r = rung g v.natAbs := mg_inj (Nat.eq_of_mul_eq_mul_right (Nat.two_pow_pos g) hval)
 unfold rpat
 rw [Nat.min_eq_left (Nat.le_of_lt hlt)]
 by_cases h0 : v = 0
 ·subst h0
  refine ⟨0, by rw [Int.natAbs_zero, rung_zero]; rfl, Or.inr ⟨by rw [hs, Int.natAbs_zero, rung_zero], rfl⟩⟩
 ·have hsign := h.sign h0
  have hw := ng_sz h.lt
  by_cases hv : v < 0
  ·rw [decide_eq_true hv] at hsign
   rw [hsign, hs] at hw
   refine ⟨r, ?_, Or.inl rfl⟩
   rw [if_pos hv]
   have : (if true = true then 2^63 else 0) = 9223372036854775808 := rfl
   rw [this] at hw
   omega
  ·rw [decide_eq_false hv] at hsign
   rw [hsign, hs] at hw
   refine ⟨r, ?_, Or.inl rfl⟩
   rw [if_neg hv]
   have : (if false = true then 2^63 else 0) = 0 := rfl
   rw [this] at hw
   omega
theorem bl_top0 {v : Int} (h : v.natAbs ≤ top 0) : bl v.natAbs ≤ 2098 := by
 have h2 := TE_eq
 obtain ⟨K, hK⟩ : ∃ K, K = 53 + TE := ⟨_, rfl⟩
 have : bl v.natAbs ≤ K := by
  apply bl_le_of_lt
  rw [hK, Nat.pow_add]
  rw [top_T] at h
  have := T0_pos
  show _ < 2^53 * T0
  omega
 omega
theorem Zs_top0 {v : Int} (h : v.natAbs ≤ top 0) : Zs v := Zs_of (k := bl v.natAbs) (bl_lt _) (by have := bl_top0 h; omega)
theorem U_top {w : Nat} (h : fin w) : (U w).natAbs ≤ top 0 := by
 rw [U_natAbs]
 unfold fin INF at h
 have h1 : mg (sz w) ≤ mg (2045 * 2^52 + (2^53 - 1)) := mg_le (by omega)
 obtain ⟨k, hk⟩ : ∃ k, k = TE := ⟨_, rfl⟩
 have h2 := mg_make (k := k) (m := 2^53 - 1) (by decide) (Or.inr (by decide))
 rw [hk, TE_eq] at h2
 rw [h2] at h1
 have h3 : top 0 = (2^53 - 1) * 2^TE := rfl
 rw [h3, TE_eq]; exact h1
theorem sums_true {a b s e : Nat} (ha : a < 18446744073709551616) (hb : b < 18446744073709551616) (hs : s < 18446744073709551616) (he : e < 18446744073709551616)
  (h : sz a ≤ 2045 * 2^52 → sz b ≤ 2045 * 2^52 → Is 0 (U a + U b) s ∧ Is 0 (U a + U b - U s) e ∧ U s + U e = U a + U b) :
  Ev (fun k => gnomonref19_Sums.f k (a : Int) (b : Int) (s : Int) (e : Int)) true := by
 have hA := atMost_f a 1022 (by decide)
 have hB := atMost_f b 1022 (by decide)
 have hno : Ev (fun k => gnomonref19_Sums.j0 k (a : Int) (b : Int) (s : Int) (e : Int) true) true :=
  Ev.step (f := fun _ => some true) (fun k => by simp only [gnomonref19_Sums.j0]; rw [if_pos trivial]) (Ev.now _)
 unfold gnomonref19_Sums.f
 rw [show (1022 : Int) = ((1022 : Nat) : Int) from rfl]
 simp only [hA, hB, Option.bind_some]
 by_cases c1 : sz a ≤ (1022 + 1023) * 2^52
 ·simp only [decide_eq_true c1, if_true]
  by_cases c2 : sz b ≤ (1022 + 1023) * 2^52
  ·simp only [decide_eq_true c2, Bool.not_true]
   obtain ⟨i1, i2, hsum⟩ := h c1 c2
   obtain ⟨fa, ba⟩ := atMost_1022 c1
   obtain ⟨fb, bb⟩ := atMost_1022 c2
   have ht := top_T
   have hT := T0_pos
   have hv : (U a + U b).natAbs ≤ top 0 := by omega
   obtain ⟨p, hp, hal⟩ := is_rpat i1 hv
   have hround := round19_ev (U a + U b) 0 (by decide) (by have := bl_top0 hv; omega)
   rw [hp] at hround
   have zv := Zs_top0 hv
   have hse : (U s + U e).natAbs ≤ top 0 := by rw [hsum]; exact hv
   have hj1 : Ev (fun k => gnomonref19_Sums.j1 k (s : Int) (e : Int) false (zn (U a + U b)) (zl (U a + U b))) true := by
    have hcmp := zcmp_ev (U s + U e) (U a + U b) (Zs_top0 hse) zv (by rw [hsum, Int.sub_self]; exact Zs_of (k := 1) (by decide) (by decide))
    rw [hsum, Int.sub_self] at hcmp
    refine Ev.step (f := fun k => (gnomonref19_Units.f k (s : Int)).bind fun x => (gnomonref19_Units.f k (e : Int)).bind fun y => (gnomonref04_Add.f k x.1 x.2 y.1 y.2).bind fun z => (gnomonref04_Cmp.f k z.1 z.2 (zn (U a + U b)) (zl (U a + U b))).bind fun t => some (t == 0)) (fun k => by simp only [gnomonref19_Sums.j1]; rw [if_neg (by decide)]) ?_
    refine Ev.bind (units_ev s hs) (Ev.bind (units_ev e he) (Ev.bind (zadd_ev (U s) (U e) (Zs_top0 (U_top i1.fin)) (Zs_top0 (U_top i2.fin)) (Zs_top0 hse)) ?_))
    rw [hsum]
    exact Ev.bind hcmp (Ev.now _)
   refine Ev.step (f := fun k => (gnomonref19_Units.f k (a : Int)).bind fun x => (gnomonref19_Units.f k (b : Int)).bind fun y => (gnomonref04_Add.f k x.1 x.2 y.1 y.2).bind fun z => (gnomonref19_Round.f k z.1 z.2 (-1074)).bind fun t => (gnomonref19_Same.f (s : Int) t).bind fun u => if u = true then (gnomonref19_Finite.f (e : Int)).bind fun v => gnomonref19_Sums.j1 k (s : Int) (e : Int) (!v) z.1 z.2 else gnomonref19_Sums.j1 k (s : Int) (e : Int) true z.1 z.2) (fun k => by simp only [gnomonref19_Sums.j0]; rw [if_neg (by decide)]) ?_
   refine Ev.bind (units_ev a ha) (Ev.bind (units_ev b hb) (Ev.bind (zadd_ev (U a) (U b) (Zs_top0 (U_top fa)) (Zs_top0 (U_top fb)) zv) ?_))
   have e1074 : (-1074 : Int) = -1074 - ((0 : Nat) : Int) := by omega
   rw [e1074]
   refine Ev.bind hround ?_
   simp only [same_f hal, Option.bind_some, if_true, finite_f i2.fin, Bool.not_true]
   exact hj1
  ·simp only [decide_eq_false c2, Bool.not_false]
   exact hno
 ·simp only [decide_eq_false c1, Bool.false_eq_true, if_false]
  exact hno
end Go.Proofs.Ytbgmadijifefiaa.SumsLaw
