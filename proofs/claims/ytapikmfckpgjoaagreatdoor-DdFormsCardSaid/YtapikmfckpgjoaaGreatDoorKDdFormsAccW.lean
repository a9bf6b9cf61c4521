/- Comparisons of binary64 words told by whole numbers; sums with what lies above the greatest number. Plain Lean. Conditions: as each lemma says. What double-doubles' sums, products and quotients answer, in whole numbers of units: relations of the floats' operations, and their errors. Conditions: fit numbers. Contracts of Accept's callees: math.Abs, dd.finite, dd.Form. Conditions: words below 2^64. -/
import Derived.Test.YtapikmfckpgjoaaGreatDoorKDdFormsFlDd
import Derived.Laws.BitsAllLaws
section
namespace Fl
open Ieee Go
theorem cmp_mul (A B : Int) (k : Nat) : compare A B = compare (A * 2^k) (B * 2^k) := by
 have hp := pos_of_mul (a := A - B) (k := k)
 have hs : (A - B) * 2^k = A * 2^k - B * 2^k := Int.sub_mul ..
 rw [hs] at hp
 have h1 : A < B ↔ A * 2^k < B * 2^k := ⟨fun h => by have := hp.1.2 (by omega); omega, fun h => by have := hp.1.1 (by omega); omega⟩
 have h2 : A = B ↔ A * 2^k = B * 2^k := ⟨fun h => by have := hp.2.2 (by omega); omega, fun h => by have := hp.2.1 (by omega); omega⟩
 show compareOfLessAndEq A B = compareOfLessAndEq (A * 2^k) (B * 2^k)
 unfold compareOfLessAndEq
 by_cases c1 : A < B
 ·rw [if_pos c1, if_pos (h1.1 c1)]
 ·rw [if_neg c1, if_neg (fun h => c1 (h1.2 h))]
  by_cases c2 : A = B
  ·rw [if_pos c2, if_pos (h2.1 c2)]
  ·rw [if_neg c2, if_neg (fun h => c2 (h2.2 h))]
theorem ord_fin {x y : Nat} (hx : fin x) (hy : fin y) : double.order x y = some (compareOfLessAndEq (U x) (U y)) := by
 obtain ⟨m, i, hx1, hi, hx2⟩ := read_fin hx
 obtain ⟨n, j, hy1, hj, hy2⟩ := read_fin hy
 unfold Format.order
 rw [hx1, hy1]
 show some (compare (signed (ng x) m (i - min i j).toNat) (signed (ng y) n (j - min i j).toNat)) = _
 rw [cmp_mul _ _ (min i j + 1074).toNat, U_signed (by omega) (by omega) hx2, U_signed (by omega) (by omega) hy2]
 rfl
theorem coe_lt {a b : Int} (h : a < b) : compareOfLessAndEq a b = .lt := if_pos h
theorem coe_eq {a b : Int} (h : a = b) : compareOfLessAndEq a b = .eq := by unfold compareOfLessAndEq; rw [if_neg (by omega), if_pos h]
theorem coe_gt {a b : Int} (h : b < a) : compareOfLessAndEq a b = .gt := by unfold compareOfLessAndEq; rw [if_neg (by omega), if_neg (by omega)]
theorem eq_fin {x y : Nat} (hx : fin x) (hy : fin y) : (double.order x y == some .eq) = decide (U x = U y) := by
 rw [ord_fin hx hy]
 rcases Int.lt_trichotomy (U x) (U y) with h | h | h
 ·rw [coe_lt h, decide_eq_false (by omega)]; rfl
 ·rw [coe_eq h, decide_eq_true h]; rfl
 ·rw [coe_gt h, decide_eq_false (by omega)]; rfl
theorem U_pos {s : Nat} (h : s < 2^63) : U s = (mg s : Nat) := by
 have e1 : sz s = s := Nat.mod_eq_of_lt h
 have e2 : ng s = false := by unfold ng; rw [Nat.div_eq_of_lt h]; rfl
 unfold U; rw [e1, e2]; rfl
theorem ord_pos {s c : Nat} (hs : s < INF) (hc : c < INF) : double.order s c = some (if s < c then .lt else if s = c then .eq else .gt) := by
 have hI : INF = 9218868437227405312 := by decide
 have e1 : sz s = s := Nat.mod_eq_of_lt (by omega)
 have e2 : sz c = c := Nat.mod_eq_of_lt (by omega)
 rw [ord_fin (by unfold fin; rw [e1]; exact hs) (by unfold fin; rw [e2]; exact hc), U_pos (by omega), U_pos (by omega)]
 congr 1
 by_cases h : s < c
 ·rw [if_pos h, coe_lt (by have := mg_lt h; omega)]
 ·rw [if_neg h]
  by_cases h2 : s = c
  ·rw [if_pos h2, coe_eq (by rw [h2])]
  ·rw [if_neg h2, coe_gt (by have := mg_lt (r := c) (s := s) (by omega); omega)]
theorem read_inf {w : Nat} (h : sz w = INF) : double.read w = .infinity (ng w) := by
 unfold Format.read
 simp only [d_sign, d_binade, d_inf, d_least]
 change (if sz w < 2^52 then Datum.number (ng w) (sz w) (-1074) else if sz w < INF then _ else if sz w = INF then _ else _) = _
 have hI : INF = 9218868437227405312 := by decide
 rw [if_neg (by omega), if_neg (by omega), if_pos h]
 rfl
theorem read_nan {w : Nat} (h : INF < sz w) : ∃ s f, double.read w = .nan s f := by
 unfold Format.read
 simp only [d_sign, d_binade, d_inf, d_least]
 change ∃ s f, (if sz w < 2^52 then Datum.number (ng w) (sz w) (-1074) else if sz w < INF then _ else if sz w = INF then _ else _) = _
 have hI : INF = 9218868437227405312 := by decide
 rw [if_neg (by omega), if_neg (by omega), if_neg (by omega)]
 exact ⟨_, _, rfl⟩
theorem ord_inf {s c : Nat} (hs : s = INF) (hc : c < INF) : double.order s c = some .gt := by
 have hI : INF = 9218868437227405312 := by decide
 have e1 : sz s = INF := by rw [hs]; exact Nat.mod_eq_of_lt (by omega)
 have e2 : sz c = c := Nat.mod_eq_of_lt (by omega)
 have e3 : ng s = false := by rw [hs]; decide
 obtain ⟨n, j, hy1, _, _⟩ := read_fin (w := c) (by unfold fin; rw [e2]; exact hc)
 unfold Format.order
 rw [read_inf e1, hy1, e3]
 rfl
theorem ord_nan {s c : Nat} (hs : INF < sz s) : double.order s c = none := by
 obtain ⟨a, b, h⟩ := read_nan hs
 unfold Format.order
 rw [h]
 rfl
theorem le_abs {s c : Nat} (hs : s < 2^63) (hc : c < INF) : (double.order s c == some .lt || double.order s c == some .eq) = decide (s ≤ c) := by
 rcases Nat.lt_trichotomy s INF with h | h | h
 ·rw [ord_pos h hc]
  by_cases c1 : s < c
  ·rw [if_pos c1, decide_eq_true (by omega)]; rfl
  ·rw [if_neg c1]
   by_cases c2 : s = c
   ·rw [if_pos c2, decide_eq_true (by omega)]; rfl
   ·rw [if_neg c2, decide_eq_false (by omega)]; rfl
 ·rw [ord_inf h hc, decide_eq_false (by omega)]; rfl
 ·rw [ord_nan (by rw [show sz s = s from Nat.mod_eq_of_lt hs]; exact h), decide_eq_false (by omega)]; rfl
structure Isn (g : Nat) (v : Int) (r : Nat) : Prop where
 lt : r < 2^64
 size : sz r = min (rung g v.natAbs) INF
 sign : v ≠ 0 → ng r = decide (v < 0)
theorem word_any (neg : Bool) {r : Nat} (h : r ≤ INF) : sz (double.word neg r) = r ∧ ng (double.word neg r) = neg ∧ double.word neg r < 2^64 := by
 unfold INF at h
 unfold Format.word sz ng
 rw [d_sign]
 cases neg
 ·rw [if_neg (by simp)]
  refine ⟨by omega, ?_, by omega⟩
  have : r / 2^63 % 2 = 0 := by omega
  rw [this]; rfl
 ·rw [if_pos rfl]
  refine ⟨by omega, ?_, by omega⟩
  have : (2^63 + r) / 2^63 % 2 = 1 := by omega
  rw [this]; rfl
theorem add_isn {x y : Nat} (hx : fin x) (hy : fin y) : ∃ r, double.add x y = some r ∧ Isn 0 (U x + U y) r := by
 obtain ⟨m, i, hx1, hi, hx2⟩ := read_fin hx
 obtain ⟨n, j, hy1, hj, hy2⟩ := read_fin hy
 have hv : signed (ng x) m (i - min i j).toNat * 2^(min i j + 1074).toNat + signed (ng y) n (j - min i j).toNat * 2^(min i j + 1074).toNat = U x + U y := by
  rw [U_signed (by omega) (by omega) hx2, U_signed (by omega) (by omega) hy2]
 unfold Format.add
 rw [hx1, hy1]
 unfold Datum.sum
 simp only [Option.map_some]
 rw [← Int.add_mul] at hv
 generalize signed (ng x) m (i - min i j).toNat + signed (ng y) n (j - min i j).toNat = total at *
 have hp := pos_of_mul (a := total) (k := (min i j + 1074).toNat)
 rw [hv] at hp
 refine ⟨_, rfl, ?_⟩
 have hn := nearest_word (g := 0) (neg := if total = 0 then ng x && ng y else decide (total < 0)) (mag := total.natAbs) (place := min i j) (V := (U x + U y).natAbs) (by omega)
  (by rw [← hv, Int.natAbs_mul, Int.natAbs_pow]; congr 2; omega)
 obtain ⟨w1, w2, w3⟩ := word_any (if total = 0 then ng x && ng y else decide (total < 0)) (Nat.min_le_right (rung 0 (U x + U y).natAbs) INF)
 have e : double.write (.number (if total = 0 then ng x && ng y else decide (total < 0)) total.natAbs (min i j)) = double.word (if total = 0 then ng x && ng y else decide (total < 0)) (min (rung 0 (U x + U y).natAbs) INF) := hn
 rw [e]
 refine ⟨w3, w1, fun h0 => ?_⟩
 rw [w2, if_neg (by intro h; exact h0 (hp.2.2 h))]
 exact decide_eq_decide.2 hp.1.symm
end Fl
end
section
set_option linter.unusedVariables false
namespace Go.Proofs.YtapikmfckpgjoaaGreatDoor.DdB
open Go Go.RowKit Go.Proofs.YtapikmfckpgjoaaGreatDoor.FW Go.Proofs.YtapikmfckpgjoaaGreatDoor.Eft Go.Proofs.YtapikmfckpgjoaaGreatDoor.EftLaw Fl Ieee
def AddR (xh xl yh yl zh zl : Nat) : Prop := ∃ s e t f c vh vl w, TwoSumR xh yh s e ∧ TwoSumR xl yl t f ∧ FOp .add e t c ∧ FastR s c vh vl ∧ FOp .add f vl w ∧ FastR vh w zh zl
theorem quick_law {a b s e m : Nat} (h : FastR a b s e) (fa : fin a) (fb : fin b) (ba : (U a).natAbs ≤ m * T0) (bb : (U b).natAbs ≤ m * T0) (hm : m ≤ 2^50) :
  fin s ∧ fin e ∧ U s = rnI 0 (U a + U b) ∧ (Fst 0 (U a) (U b) → U s + U e = U a + U b) ∧ (U s).natAbs ≤ 2 * m * T0 ∧ (U e).natAbs ≤ 4 * m * T0 := by
 obtain ⟨z, h1, h2, h3⟩ := h
 have e2 : ∀ k, k * m * T0 = k * (m * T0) := fun k => Nat.mul_assoc ..
 have i1 := fop_add h1 fa fb (le_top0 (m := 2 * m) (by rw [e2]; omega) (by omega))
 have v1 := val0 i1
 have b1 := rn_le_T (v := U a + U b) (m := 2 * m) (by rw [e2]; omega) (by omega)
 rw [← v1] at b1
 have i2 := fop_sub h2 i1.fin fa (le_top0 (m := 3 * m) (by rw [e2] at b1 ⊢; omega) (by omega))
 have v2 := val0 i2
 have b2 := rn_le_T (v := U s - U a) (m := 3 * m) (by rw [e2] at b1 ⊢; omega) (by omega)
 rw [← v2] at b2
 have i3 := fop_sub h3 fb i2.fin (le_top0 (m := 4 * m) (by rw [e2] at b2 ⊢; omega) (by omega))
 have v3 := val0 i3
 have b3 := rn_le_T (v := U b - U z) (m := 4 * m) (by rw [e2] at b2 ⊢; omega) (by omega)
 rw [← v3] at b3
 refine ⟨i1.fin, i3.fin, v1, fun F => ?_, b1, b3⟩
 obtain ⟨g1, g2⟩ := fast_any (U_isF a) (U_isF b) F
 rw [← v1] at g1 g2
 rw [g1] at v2
 rw [← v2] at g2
 rw [v3, g2]
 omega
theorem two_law {a b s e m : Nat} (h : TwoSumR a b s e) (fa : fin a) (fb : fin b) (ba : (U a).natAbs ≤ m * T0) (bb : (U b).natAbs ≤ m * T0) (hm : m ≤ 2^49) :
  fin s ∧ fin e ∧ U s = rnI 0 (U a + U b) ∧ U s + U e = U a + U b ∧ (U s).natAbs ≤ 2 * m * T0 ∧ (U e).natAbs ≤ 4 * m * T0 := by
 obtain ⟨w, aa, t1, t2, h1, h2, h3, h4, h5, h6⟩ := h
 have e2 : ∀ k, k * m * T0 = k * (m * T0) := fun k => Nat.mul_assoc ..
 have i1 := fop_add h1 fa fb (le_top0 (m := 2 * m) (by rw [e2]; omega) (by omega))
 have v1 := val0 i1
 have b1 := rn_le_T (v := U a + U b) (m := 2 * m) (by rw [e2]; omega) (by omega)
 rw [← v1] at b1
 have i2 := fop_sub h2 i1.fin fa (le_top0 (m := 3 * m) (by rw [e2] at b1 ⊢; omega) (by omega))
 have v2 := val0 i2
 have b2 := rn_le_T (v := U s - U a) (m := 3 * m) (by rw [e2] at b1 ⊢; omega) (by omega)
 rw [← v2] at b2
 have i3 := fop_sub h3 i1.fin i2.fin (le_top0 (m := 5 * m) (by rw [e2] at b1 b2 ⊢; omega) (by omega))
 have v3 := val0 i3
 have b3 := rn_le_T (v := U s - U w) (m := 5 * m) (by rw [e2] at b1 b2 ⊢; omega) (by omega)
 rw [← v3] at b3
 have i4 := fop_sub h4 fa i3.fin (le_top0 (m := 6 * m) (by rw [e2] at b3 ⊢; omega) (by omega))
 have i5 := fop_sub h5 fb i2.fin (le_top0 (m := 4 * m) (by rw [e2] at b2 ⊢; omega) (by omega))
 have hin := two_sum_in (g := 0) (U_isF a) (U_isF b) v1 v2 v3
 rw [← val0 i4, ← val0 i5] at hin
 have i6 := fop_add h6 i4.fin i5.fin (by rw [hin]; exact le_top0 (m := 4 * m) (by rw [e2] at b1 ⊢; omega) (by omega))
 rw [hin] at i6
 have v6 := val0 i6
 have e6 : rnI 0 (U a + U b - U s) = U a + U b - U s := by rw [v1]; exact rnI_exact (err_isF (U_isF a) (U_isF b))
 rw [e6] at v6
 refine ⟨i1.fin, i6.fin, v1, by omega, b1, ?_⟩
 rw [e2] at b1 ⊢
 omega
structure Frm (h l : Nat) : Prop where
 lh : h < 2^64
 ll : l < 2^64
 fh : fin h
 fl : fin l
 hx : U h = rnI 0 (U h + U l)
def V (h l : Nat) : Int := U h + U l
def fitS (h : Nat) : Prop := sz h = 0 ∨ (723 * 2^52 ≤ sz h ∧ sz h ≤ 1323 * 2^52)
theorem fit_bounds {x : Nat} (hs : fitS x) : fin x ∧ ∃ n k : Nat, n = 774 ∧ k = 1374 ∧ (U x = 0 ∨ 2^n ≤ (U x).natAbs) ∧ (U x).natAbs ≤ 2^k := by
 obtain ⟨n, hn⟩ : ∃ n : Nat, n = 774 := ⟨_, rfl⟩
 obtain ⟨k, hk⟩ : ∃ k : Nat, k = 1374 := ⟨_, rfl⟩
 obtain ⟨n', hn'⟩ : ∃ n' : Nat, n = 52 + n' := ⟨n - 52, by omega⟩
 obtain ⟨k', hk'⟩ : ∃ k' : Nat, k = 52 + k' := ⟨k - 52, by omega⟩
 refine ⟨?_, n, k, hn, hk, ?_, ?_⟩
 ·rcases hs with h | h <;> unfold fin INF <;> omega
 ·rcases hs with h | h
  ·left
   have := U_natAbs x; rw [h] at this
   have e : mg 0 = 0 := rfl
   omega
  ·right
   rw [U_natAbs]
   have h1 := mg_le h.1
   have h2 := mg_top n'
   have e : (n' + 1) * 2^52 = 723 * 2^52 := by omega
   rw [e] at h2
   rw [hn', Nat.pow_add]; omega
 ·rw [U_natAbs]
  have h1 : mg (sz x) ≤ mg (1323 * 2^52) := mg_le (by rcases hs with h | h <;> omega)
  have h2 := mg_top k'
  have e : (k' + 1) * 2^52 = 1323 * 2^52 := by omega
  rw [e] at h2
  rw [hk', Nat.pow_add]; omega
theorem two_T (k : Nat) (h : k ≤ TE) : 2^k ≤ T0 := by unfold T0; exact Nat.pow_le_pow_right (by decide) h
theorem Frm.low {h l : Nat} (F : Frm h l) : 2^53 * (U l).natAbs ≤ (U h).natAbs + (U l).natAbs := low_rel F.hx
theorem Frm.low_le {h l : Nat} (F : Frm h l) : (U l).natAbs ≤ (U h).natAbs := by have := F.low; omega
theorem fit_T {h : Nat} (hs : fitS h) : (U h).natAbs ≤ 1 * T0 := by
 obtain ⟨_, n, k, hn, hk, _, h2⟩ := fit_bounds hs
 have := two_T k (by have := TE_eq; omega)
 omega
theorem add_law {xh xl yh yl zh zl : Nat} (h : AddR xh xl yh yl zh zl) (X : Frm xh xl) (Y : Frm yh yl) (bx : (U xh).natAbs ≤ 1 * T0) (by' : (U yh).natAbs ≤ 1 * T0) :
  Frm zh zl ∧ 2^103 * (V zh zl - (V xh xl + V yh yl)).natAbs ≤ (V xh xl + V yh yl).natAbs := by
 obtain ⟨s, e, t, f, c, vh, vl, w, h1, h2, h3, h4, h5, h6⟩ := h
 have lx := X.low_le
 have ly := Y.low_le
 obtain ⟨fs, fe, s1, s2, bs, be⟩ := two_law h1 X.fh Y.fh bx by' (by decide)
 obtain ⟨ft, ff, t1, t2, bt, bf⟩ := two_law (m := 1) h2 X.fl Y.fl (by omega) (by omega) (by decide)
 have i3 := fop_add h3 fe ft (le_top0 (m := 6) (by omega) (by decide))
 have c1 := val0 i3
 have bc := rn_le_T (v := U e + U t) (m := 6) (by omega) (by decide)
 rw [← c1] at bc
 obtain ⟨fvh, fvl, v1, v2, bvh, bvl⟩ := quick_law (m := 6) h4 fs i3.fin (by omega) bc (by decide)
 have i5 := fop_add h5 ff fvl (le_top0 (m := 28) (by omega) (by decide))
 have w1 := val0 i5
 have bw := rn_le_T (v := U f + U vl) (m := 28) (by omega) (by decide)
 rw [← w1] at bw
 obtain ⟨fzh, fzl, z1, z2, _, _⟩ := quick_law (m := 28) h6 fvh i5.fin (by omega) bw (by decide)
 have A : AddIn (U xh) (U xl) (U yh) (U yl) (U s) (U e) (U t) (U f) (U c) (U vh) (U vl) (U w) (U zh) (U zl) :=
  ⟨U_isF _, U_isF _, U_isF _, U_isF _, X.hx, Y.hx, s1, by omega, t1, by omega, c1, v1, fun F => by have := v2 F; omega, w1, z1, fun F => by have := z2 F; omega⟩
 obtain ⟨F1, F2, r⟩ := add_dd A
 have e2 := z2 F2
 obtain ⟨zz, k1, k2, k3⟩ := h6
 refine ⟨⟨k1.lt, k3.lt, fzh, fzl, by rw [e2]; exact z1⟩, r⟩
end Go.Proofs.YtapikmfckpgjoaaGreatDoor.DdB
end
section
namespace Go.Proofs.YtapikmfckpgjoaaGreatDoor.AccW
open Go.RowKit Go.Proofs.YtapikmfckpgjoaaGreatDoor.FW Go.Proofs.YtapikmfckpgjoaaGreatDoor.Eft Fl
theorem andNot_sz {x : Nat} (hx : x < 18446744073709551616) : bits .andNot .u64 (x : Int) 9223372036854775808 = ((sz x : Nat) : Int) := by
 have h := u64_andNot_nat x 9223372036854775808 hx (by decide)
 have e : 18446744073709551615 - 9223372036854775808 = 2^63 - 1 := by decide
 rw [e, Nat.and_two_pow_sub_one_eq_mod] at h
 exact h
end Go.Proofs.YtapikmfckpgjoaaGreatDoor.AccW
end
