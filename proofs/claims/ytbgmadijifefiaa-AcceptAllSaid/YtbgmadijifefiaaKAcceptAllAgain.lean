/- The same call gives the same words again, or NaNs both times. Plain Lean over the contracts of the float functions. No condition. -/
import Derived.Test.YtbgmadijifefiaaKAcceptAllSumsLaw
import Derived.Test.YtbgmadijifefiaaKAcceptAllFlCmp
import Derived.Test.YtbgmadijifefiaaKAcceptAllPLibx15
namespace Go.Proofs.Ytbgmadijifefiaa.Again
open Go.RowKit Go.Proofs.YtbgmadijifefiaaW.PrintWords Go.Proofs.YtbgmadijifefiaaW.PrintMore Go.Proofs.Ytbgmadijifefiaa.Num Go.Proofs.Ytbgmadijifefiaa.PLib Go.Proofs.Ytbgmadijifefiaa.Ref Go.Proofs.Ytbgmadijifefiaa.FW Go.Proofs.Ytbgmadijifefiaa.Eft Go.Proofs.Ytbgmadijifefiaa.EftLaw Go.Proofs.Ytbgmadijifefiaa.SumsLaw Fl Ieee
def Al (x y : Nat) : Prop := x = y ∨ (INF < sz x ∧ INF < sz y)
theorem Al.refl (x : Nat) : Al x x := Or.inl rfl
theorem nan_l {op : BinOp} {x y : Nat} (hop : op = .add ∨ op = .sub ∨ op = .mul) (h : INF < sz x) : floatBits op .f64 x y = none := by
 obtain ⟨s, f, e⟩ := read_nan h
 rcases hop with rfl | rfl | rfl
 ·show double.add x y = none
  unfold Format.add; rw [e]; cases double.read y <;> rfl
 ·show double.sub x y = none
  unfold Format.sub; rw [e]; cases double.read y <;> rfl
 ·show double.mul x y = none
  unfold Format.mul; rw [e]; cases double.read y <;> rfl
theorem nan_r {op : BinOp} {x y : Nat} (hop : op = .add ∨ op = .sub ∨ op = .mul) (h : INF < sz y) : floatBits op .f64 x y = none := by
 obtain ⟨s, f, e⟩ := read_nan h
 rcases hop with rfl | rfl | rfl
 ·show double.add x y = none
  unfold Format.add; rw [e]; cases double.read x <;> rfl
 ·show double.sub x y = none
  unfold Format.sub; rw [e]; cases double.read x <;> rfl
 ·show double.mul x y = none
  unfold Format.mul; rw [e]; cases double.read x <;> rfl
theorem nan_sz {r : Nat} (h : 9218868437227405312 < r % 9223372036854775808) : INF < sz r := h
theorem fop_al {op : BinOp} {x y x' y' r r' : Nat} (hop : op = .add ∨ op = .sub ∨ op = .mul) (hx : Al x x') (hy : Al y y') (h : FOp op x y r) (h' : FOp op x' y' r') : Al r r' := by
 by_cases hn : INF < sz x ∨ INF < sz y
 ·have hn' : INF < sz x' ∨ INF < sz y' := by
   rcases hn with hn | hn
   ·rcases hx with rfl | hx
    ·exact Or.inl hn
    ·exact Or.inl hx.2
   ·rcases hy with rfl | hy
    ·exact Or.inr hn
    ·exact Or.inr hy.2
  right
  refine ⟨nan_sz (h.nan ?_), nan_sz (h'.nan ?_)⟩
  ·rcases hn with hn | hn
   ·exact nan_l hop hn
   ·exact nan_r hop hn
  ·rcases hn' with hn | hn
   ·exact nan_l hop hn
   ·exact nan_r hop hn
 ·obtain rfl : x = x' := by
   rcases hx with hx | hx
   ·exact hx
   ·exact absurd (Or.inl hx.1) hn
  obtain rfl : y = y' := by
   rcases hy with hy | hy
   ·exact hy
   ·exact absurd (Or.inr hy.1) hn
  rcases hb : floatBits op .f64 x y with _ | v
  ·exact Or.inr ⟨nan_sz (h.nan hb), nan_sz (h'.nan hb)⟩
  ·left; rw [h.val v hb, h'.val v hb]
theorem sum_al {a b s e s' e' : Nat} (h : TwoSumR a b s e) (k : TwoSumR a b s' e') : Al s s' ∧ Al e e' := by
 obtain ⟨bb, aa, t1, t2, h1, h2, h3, h4, h5, h6⟩ := h
 obtain ⟨bb', aa', t1', t2', k1, k2, k3, k4, k5, k6⟩ := k
 have e1 := fop_al (by simp) (Al.refl _) (Al.refl _) h1 k1
 have e2 := fop_al (by simp) e1 (Al.refl _) h2 k2
 have e3 := fop_al (by simp) e1 e2 h3 k3
 have e4 := fop_al (by simp) (Al.refl _) e3 h4 k4
 have e5 := fop_al (by simp) (Al.refl _) e2 h5 k5
 exact ⟨e1, fop_al (by simp) e4 e5 h6 k6⟩
theorem fast_al {a b s e s' e' : Nat} (h : FastR a b s e) (k : FastR a b s' e') : Al s s' ∧ Al e e' := by
 obtain ⟨z, h1, h2, h3⟩ := h
 obtain ⟨z', k1, k2, k3⟩ := k
 have e1 := fop_al (by simp) (Al.refl _) (Al.refl _) h1 k1
 have e2 := fop_al (by simp) e1 (Al.refl _) h2 k2
 exact ⟨e1, fop_al (by simp) (Al.refl _) e2 h3 k3⟩
theorem split_al {a s e s' e' : Nat} (h : SplitR a s e) (k : SplitR a s' e') : Al s s' ∧ Al e e' := by
 obtain ⟨c, d, h1, h2, h3, h4⟩ := h
 obtain ⟨c', d', k1, k2, k3, k4⟩ := k
 have e1 := fop_al (by simp) (Al.refl _) (Al.refl _) h1 k1
 have e2 := fop_al (by simp) e1 (Al.refl _) h2 k2
 have e3 := fop_al (by simp) e1 e2 h3 k3
 exact ⟨e3, fop_al (by simp) (Al.refl _) e3 h4 k4⟩
theorem prod_al {a b s e s' e' : Nat} (h : ProdR a b s e) (k : ProdR a b s' e') : Al s s' ∧ Al e e' := by
 obtain ⟨ah, al, bh, bl, x1, e1, x2, e2, x3, e3, x4, hp, sa, sb, h1, h2, h3, h4, h5, h6, h7, h8⟩ := h
 obtain ⟨ah', al', bh', bl', x1', e1', x2', e2', x3', e3', x4', kp, ta, tb, k1, k2, k3, k4, k5, k6, k7, k8⟩ := k
 have p := fop_al (by simp) (Al.refl _) (Al.refl _) hp kp
 obtain ⟨qah, qal⟩ := split_al sa ta
 obtain ⟨qbh, qbl⟩ := split_al sb tb
 have f1 := fop_al (by simp) qah qbh h1 k1
 have f2 := fop_al (by simp) f1 p h2 k2
 have f3 := fop_al (by simp) qah qbl h3 k3
 have f4 := fop_al (by simp) f2 f3 h4 k4
 have f5 := fop_al (by simp) qal qbh h5 k5
 have f6 := fop_al (by simp) f4 f5 h6 k6
 have f7 := fop_al (by simp) qal qbl h7 k7
 exact ⟨p, fop_al (by simp) f6 f7 h8 k8⟩
structure Eight (a b : Nat) (f : Nat → Nat) : Prop where mk :: (sum : TwoSumR a b (f 0) (f 1)) (prod : ProdR a b (f 2) (f 3)) (split : SplitR a (f 4) (f 5)) (fast : FastR a b (f 6) (f 7))
theorem Eight.al {a b : Nat} {f g : Nat → Nat} (h : Eight a b f) (k : Eight a b g) (j : Nat) (hj : j < 8) : Al (f j) (g j) := by
 have h1 := sum_al h.sum k.sum
 have h2 := prod_al h.prod k.prod
 have h3 := split_al h.split k.split
 have h4 := fast_al h.fast k.fast
 rcases (show j = 0 ∨ j = 1 ∨ j = 2 ∨ j = 3 ∨ j = 4 ∨ j = 5 ∨ j = 6 ∨ j = 7 by omega) with rfl | rfl | rfl | rfl | rfl | rfl | rfl | rfl
 ·exact h1.1
 ·exact h1.2
 ·exact h2.1
 ·exact h2.2
 ·exact h3.1
 ·exact h3.2
 ·exact h4.1
 ·exact h4.2
def Kept (xs : Nat → Nat) (n : Nat) (K : List Nat) (k : Nat) : Prop := K.length = 8 * k ∧ ∀ m, m < k → Eight (xs m) (xs ((m + 1) % n)) (fun j => K.getD (8 * m + j) 0)
theorem Kept.nil (xs : Nat → Nat) (n : Nat) : Kept xs n [] 0 := ⟨rfl, fun _ h => absurd h (Nat.not_lt_zero _)⟩
theorem Kept.snoc {xs : Nat → Nat} {n : Nat} {K : List Nat} {k : Nat} (h : Kept xs n K k) {s e p g y l t f : Nat} (h1 : TwoSumR (xs k) (xs ((k + 1) % n)) s e) (h2 : ProdR (xs k) (xs ((k + 1) % n)) p g) (h3 : SplitR (xs k) y l) (h4 : FastR (xs k) (xs ((k + 1) % n)) t f) :
  Kept xs n (K ++ [s, e, p, g, y, l, t, f]) (k + 1) := by
 refine ⟨by rw [List.length_append, h.1]; simp; omega, ?_⟩
 intro m hm
 by_cases hk : m < k
 ·have h0 := h.2 m hk
  have e : ∀ j, j < 8 → (K ++ [s, e, p, g, y, l, t, f]).getD (8 * m + j) 0 = K.getD (8 * m + j) 0 := by
   intro j hj
   rw [List.getD_eq_getElem?_getD, List.getD_eq_getElem?_getD, List.getElem?_append_left (by rw [h.1]; omega)]
  refine ⟨?_, ?_, ?_, ?_⟩
  ·rw [e 0 (by decide), e 1 (by decide)]; exact h0.sum
  ·rw [e 2 (by decide), e 3 (by decide)]; exact h0.prod
  ·rw [e 4 (by decide), e 5 (by decide)]; exact h0.split
  ·rw [e 6 (by decide), e 7 (by decide)]; exact h0.fast
 ·obtain rfl : m = k := by omega
  have e : ∀ j, (K ++ [s, e, p, g, y, l, t, f]).getD (8 * m + j) 0 = [s, e, p, g, y, l, t, f].getD j 0 := by
   intro j
   rw [List.getD_eq_getElem?_getD, List.getD_eq_getElem?_getD, List.getElem?_append_right (by rw [h.1]; omega), h.1]
   congr 2; omega
  refine ⟨?_, ?_, ?_, ?_⟩
  ·rw [e 0, e 1]; exact h1
  ·rw [e 2, e 3]; exact h2
  ·rw [e 4, e 5]; exact h3
  ·rw [e 6, e 7]; exact h4
theorem Kept.al {xs : Nat → Nat} {n : Nat} {K : List Nat} {k m : Nat} (h : Kept xs n K k) (hm : m < k) {s e p g y l t f : Nat} (h1 : TwoSumR (xs m) (xs ((m + 1) % n)) s e) (h2 : ProdR (xs m) (xs ((m + 1) % n)) p g) (h3 : SplitR (xs m) y l) (h4 : FastR (xs m) (xs ((m + 1) % n)) t f) (j : Nat) (hj : j < 8) :
  Al (K.getD (8 * m + j) 0) ([s, e, p, g, y, l, t, f].getD j 0) :=
 (h.2 m hm).al (g := fun j => [s, e, p, g, y, l, t, f].getD j 0) ⟨h1, h2, h3, h4⟩ j hj
end Go.Proofs.Ytbgmadijifefiaa.Again
