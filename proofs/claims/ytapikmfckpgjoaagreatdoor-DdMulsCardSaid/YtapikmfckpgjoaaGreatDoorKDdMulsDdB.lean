/- What double-doubles' sums, products and quotients answer, in whole numbers of units: relations of the floats' operations, and their errors. Conditions: fit numbers. -/
import Derived.Test.YtapikmfckpgjoaaGreatDoorKDdMulsProdB
import Derived.Test.YtapikmfckpgjoaaGreatDoorKDdMulsFlDd
import Derived.Test.YtapikmfckpgjoaaGreatDoorKDdMulsFlCmp
set_option linter.unusedVariables false
namespace Go.Proofs.YtapikmfckpgjoaaGreatDoor.DdB
open Go Go.RowKit Go.Proofs.YtapikmfckpgjoaaGreatDoor.FW Go.Proofs.YtapikmfckpgjoaaGreatDoor.Eft Go.Proofs.YtapikmfckpgjoaaGreatDoor.EftLaw Fl Ieee
def AddR (xh xl yh yl zh zl : Nat) : Prop := ∃ s e t f c vh vl w, TwoSumR xh yh s e ∧ TwoSumR xl yl t f ∧ FOp .add e t c ∧ FastR s c vh vl ∧ FOp .add f vl w ∧ FastR vh w zh zl
def MulR (xh xl yh yl zh zl : Nat) : Prop := ∃ p e m1 m2 c w, ProdR xh yh p e ∧ FOp .mul xh yl m1 ∧ FOp .mul xl yh m2 ∧ FOp .add m1 m2 c ∧ FOp .add e c w ∧ FastR p w zh zl
def MulfR (xh xl f zh zl : Nat) : Prop := ∃ p e m vh vl w, ProdR xh f p e ∧ FOp .mul xl f m ∧ FastR p m vh vl ∧ FOp .add vl e w ∧ FastR vh w zh zl
def DivR (xh xl yh yl zh zl : Nat) : Prop := ∃ q rh rl d1 d2 l t, FOp .quo xh yh q ∧ MulfR yh yl q rh rl ∧ FOp .sub xh rh d1 ∧ FOp .sub xl rl d2 ∧ FOp .add d1 d2 l ∧ FOp .quo l yh t ∧ FastR q t zh zl
theorem quick_law {a b s e m : Nat} (h : FastR a b s e) (fa : fin a) (fb : fin b) (ba : (U a).natAbs ≤ m * T0) (bb : (U b).natAbs ≤ m * T0) (hm : m ≤ 2^50) :
  fin s ∧ fin e ∧ U s = rnI 0 (U a + U b) ∧ (Fst 0 (U a) (U b) → U s + U e = U a + U b) ∧ (U s).natAbs ≤ 2 * m * T0 ∧ (U e).natAbs ≤ 4 * m * T0 := by
 obtain ⟨z, h1, h2, h3⟩ := h
 have e2 : ∀ k, k * m * T0 = k * (m * T0) := fun k => Nat.mul_assoc ..
 have i1 := fop_add h1 fa fb (le_top0 (m := 2 * m) (by rw [e2]; omega) (by omega))
 have v1 := val0 i1
 have b1 := rn_le_T (v := U a + U b) (m := 2 * m) (by rw [e2]; omega) (by omega)
 rw [← v1] at b1
 have i2 := fop_sub h2 i1.fin fa (le_top0 (m := 3 * m) (by rw [e2] at b1 ⊢; omega) (by omega))
 have v2 := val0 i2
 have b2 := rn_le_T (v := U s - U a) (m := 3 * m) (by rw [e2] at b1 ⊢; omega) (by omega)
 rw [← v2] at b2
 have i3 := fop_sub h3 fb i2.fin (le_top0 (m := 4 * m) (by rw [e2] at b2 ⊢; omega) (by omega))
 have v3 := val0 i3
 have b3 := rn_le_T (v := U b - U z) (m := 4 * m) (by rw [e2] at b2 ⊢; omega) (by omega)
 rw [← v3] at b3
 refine ⟨i1.fin, i3.fin, v1, fun F => ?_, b1, b3⟩
 obtain ⟨g1, g2⟩ := fast_any (U_isF a) (U_isF b) F
 rw [← v1] at g1 g2
 rw [g1] at v2
 rw [← v2] at g2
 rw [v3, g2]
 omega
theorem two_law {a b s e m : Nat} (h : TwoSumR a b s e) (fa : fin a) (fb : fin b) (ba : (U a).natAbs ≤ m * T0) (bb : (U b).natAbs ≤ m * T0) (hm : m ≤ 2^49) :
  fin s ∧ fin e ∧ U s = rnI 0 (U a + U b) ∧ U s + U e = U a + U b ∧ (U s).natAbs ≤ 2 * m * T0 ∧ (U e).natAbs ≤ 4 * m * T0 := by
 obtain ⟨w, aa, t1, t2, h1, h2, h3, h4, h5, h6⟩ := h
 have e2 : ∀ k, k * m * T0 = k * (m * T0) := fun k => Nat.mul_assoc ..
 have i1 := fop_add h1 fa fb (le_top0 (m := 2 * m) (by rw [e2]; omega) (by omega))
 have v1 := val0 i1
 have b1 := rn_le_T (v := U a + U b) (m := 2 * m) (by rw [e2]; omega) (by omega)
 rw [← v1] at b1
 have i2 := fop_sub h2 i1.fin fa (le_top0 (m := 3 * m) (by rw [e2] at b1 ⊢; omega) (by omega))
 have v2 := val0 i2
 have b2 := rn_le_T (v := U s - U a) (m := 3 * m) (by rw [e2] at b1 ⊢; omega) (by omega)
 rw [← v2] at b2
 have i3 := fop_sub h3 i1.fin i2.fin (le_top0 (m := 5 * m) (by rw [e2] at b1 b2 ⊢; omega) (by omega))
 have v3 := val0 i3
 have b3 := rn_le_T (v := U s - U w) (m := 5 * m) (by rw [e2] at b1 b2 ⊢; omega) (by omega)
 rw [← v3] at b3
 have i4 := fop_sub h4 fa i3.fin (le_top0 (m := 6 * m) (by rw [e2] at b3 ⊢; omega) (by omega))
 have i5 := fop_sub h5 fb i2.fin (le_top0 (m := 4 * m) (by rw [e2] at b2 ⊢; omega) (by omega))
 have hin := two_sum_in (g := 0) (U_isF a) (U_isF b) v1 v2 v3
 rw [← val0 i4, ← val0 i5] at hin
 have i6 := fop_add h6 i4.fin i5.fin (by rw [hin]; exact le_top0 (m := 4 * m) (by rw [e2] at b1 ⊢; omega) (by omega))
 rw [hin] at i6
 have v6 := val0 i6
 have e6 : rnI 0 (U a + U b - U s) = U a + U b - U s := by rw [v1]; exact rnI_exact (err_isF (U_isF a) (U_isF b))
 rw [e6] at v6
 refine ⟨i1.fin, i6.fin, v1, by omega, b1, ?_⟩
 rw [e2] at b1 ⊢
 omega
structure Frm (h l : Nat) : Prop where
 lh : h < 2^64
 ll : l < 2^64
 fh : fin h
 fl : fin l
 hx : U h = rnI 0 (U h + U l)
def V (h l : Nat) : Int := U h + U l
def fitS (h : Nat) : Prop := sz h = 0 ∨ (723 * 2^52 ≤ sz h ∧ sz h ≤ 1323 * 2^52)
theorem fit_bounds {x : Nat} (hs : fitS x) : fin x ∧ ∃ n k : Nat, n = 774 ∧ k = 1374 ∧ (U x = 0 ∨ 2^n ≤ (U x).natAbs) ∧ (U x).natAbs ≤ 2^k := by
 obtain ⟨n, hn⟩ : ∃ n : Nat, n = 774 := ⟨_, rfl⟩
 obtain ⟨k, hk⟩ : ∃ k : Nat, k = 1374 := ⟨_, rfl⟩
 obtain ⟨n', hn'⟩ : ∃ n' : Nat, n = 52 + n' := ⟨n - 52, by omega⟩
 obtain ⟨k', hk'⟩ : ∃ k' : Nat, k = 52 + k' := ⟨k - 52, by omega⟩
 refine ⟨?_, n, k, hn, hk, ?_, ?_⟩
 ·rcases hs with h | h <;> unfold fin INF <;> omega
 ·rcases hs with h | h
  ·left
   have := U_natAbs x; rw [h] at this
   have e : mg 0 = 0 := rfl
   omega
  ·right
   rw [U_natAbs]
   have h1 := mg_le h.1
   have h2 := mg_top n'
   have e : (n' + 1) * 2^52 = 723 * 2^52 := by omega
   rw [e] at h2
   rw [hn', Nat.pow_add]; omega
 ·rw [U_natAbs]
  have h1 : mg (sz x) ≤ mg (1323 * 2^52) := mg_le (by rcases hs with h | h <;> omega)
  have h2 := mg_top k'
  have e : (k' + 1) * 2^52 = 1323 * 2^52 := by omega
  rw [e] at h2
  rw [hk', Nat.pow_add]; omega
theorem two_T (k : Nat) (h : k ≤ TE) : 2^k ≤ T0 := by unfold T0; exact Nat.pow_le_pow_right (by decide) h
theorem Frm.low {h l : Nat} (F : Frm h l) : 2^53 * (U l).natAbs ≤ (U h).natAbs + (U l).natAbs := low_rel F.hx
theorem Frm.low_le {h l : Nat} (F : Frm h l) : (U l).natAbs ≤ (U h).natAbs := by have := F.low; omega
theorem fit_T {h : Nat} (hs : fitS h) : (U h).natAbs ≤ 1 * T0 := by
 obtain ⟨_, n, k, hn, hk, _, h2⟩ := fit_bounds hs
 have := two_T k (by have := TE_eq; omega)
 omega
theorem add_law {xh xl yh yl zh zl : Nat} (h : AddR xh xl yh yl zh zl) (X : Frm xh xl) (Y : Frm yh yl) (bx : (U xh).natAbs ≤ 1 * T0) (by' : (U yh).natAbs ≤ 1 * T0) :
  Frm zh zl ∧ 2^103 * (V zh zl - (V xh xl + V yh yl)).natAbs ≤ (V xh xl + V yh yl).natAbs := by
 obtain ⟨s, e, t, f, c, vh, vl, w, h1, h2, h3, h4, h5, h6⟩ := h
 have lx := X.low_le
 have ly := Y.low_le
 obtain ⟨fs, fe, s1, s2, bs, be⟩ := two_law h1 X.fh Y.fh bx by' (by decide)
 obtain ⟨ft, ff, t1, t2, bt, bf⟩ := two_law (m := 1) h2 X.fl Y.fl (by omega) (by omega) (by decide)
 have i3 := fop_add h3 fe ft (le_top0 (m := 6) (by omega) (by decide))
 have c1 := val0 i3
 have bc := rn_le_T (v := U e + U t) (m := 6) (by omega) (by decide)
 rw [← c1] at bc
 obtain ⟨fvh, fvl, v1, v2, bvh, bvl⟩ := quick_law (m := 6) h4 fs i3.fin (by omega) bc (by decide)
 have i5 := fop_add h5 ff fvl (le_top0 (m := 28) (by omega) (by decide))
 have w1 := val0 i5
 have bw := rn_le_T (v := U f + U vl) (m := 28) (by omega) (by decide)
 rw [← w1] at bw
 obtain ⟨fzh, fzl, z1, z2, _, _⟩ := quick_law (m := 28) h6 fvh i5.fin (by omega) bw (by decide)
 have A : AddIn (U xh) (U xl) (U yh) (U yl) (U s) (U e) (U t) (U f) (U c) (U vh) (U vl) (U w) (U zh) (U zl) :=
  ⟨U_isF _, U_isF _, U_isF _, U_isF _, X.hx, Y.hx, s1, by omega, t1, by omega, c1, v1, fun F => by have := v2 F; omega, w1, z1, fun F => by have := z2 F; omega⟩
 obtain ⟨F1, F2, r⟩ := add_dd A
 have e2 := z2 F2
 obtain ⟨zz, k1, k2, k3⟩ := h6
 refine ⟨⟨k1.lt, k3.lt, fzh, fzl, by rw [e2]; exact z1⟩, r⟩
theorem ke_scale (b : Int) (g : Nat) : ke g (b * 2^g) = ke 0 b + g := by
 unfold ke
 rw [Int.natAbs_mul, Int.natAbs_pow]
 show kx g (b.natAbs * 2^g) = _
 apply kx_of
 ·omega
 ·have := kx_lt 0 b.natAbs
  rw [Nat.pow_add, ← Nat.mul_assoc]
  exact Nat.mul_lt_mul_of_pos_right this (pw g)
 ·by_cases h : kx 0 b.natAbs = 0
  ·left; omega
  ·right
   have := kx_le h
   rw [Nat.pow_add, ← Nat.mul_assoc]
   exact Nat.mul_le_mul_right _ this
theorem Fst_down {a b : Int} {g : Nat} (h : Fst g (a * 2^g) (b * 2^g)) : Fst 0 a b := by
 have hp := ipw g
 rcases h with h | h | h
 ·rcases Int.mul_eq_zero.1 h with h | h
  ·exact Or.inl h
  ·omega
 ·rw [Int.natAbs_mul, Int.natAbs_mul] at h
  exact Or.inr (Or.inl (Nat.le_of_mul_le_mul_right h (by omega)))
 ·rw [ke_scale, Int.pow_add] at h
  exact Or.inr (Or.inr (Int.dvd_of_mul_dvd_mul_right (by omega) h))
theorem prod_lo {a b : Nat} {g : Nat} (hg : g = 1074) (ha : U a = 0 ∨ ∃ n, 774 ≤ n ∧ 2^n ≤ (U a).natAbs) (hb : U b = 0 ∨ ∃ n, 774 ≤ n ∧ 2^n ≤ (U b).natAbs) : U a * U b = 0 ∨ 2^(g + 172) ≤ (U a * U b).natAbs := by
 rcases ha with h | ⟨n, hn, h1⟩
 ·left; rw [h, Int.zero_mul]
 ·rcases hb with h | ⟨m, hm, h2⟩
  ·left; rw [h, Int.mul_zero]
  ·right
   rw [Int.natAbs_mul]
   refine Nat.le_trans ?_ (Nat.mul_le_mul h1 h2)
   rw [← Nat.pow_add]
   exact Nat.pow_le_pow_right (by decide) (by omega)
theorem lo_E {v : Int} {g : Nat} (h : v = 0 ∨ 2^(g + 172) ≤ v.natAbs) : v = 0 ∨ 2^120 * (2^52 * 2^g) ≤ v.natAbs := by
 rcases h with h | h
 ·exact Or.inl h
 ·right
  refine Nat.le_trans (Nat.le_of_eq ?_) h
  rw [← Nat.pow_add, ← Nat.pow_add]; congr 1; omega
theorem lo_114 {v : Int} {g : Nat} (h : v = 0 ∨ 2^(g + 172) ≤ v.natAbs) : v = 0 ∨ 2^(g + 114) ≤ v.natAbs :=
 h.imp id fun h => Nat.le_trans (Nat.pow_le_pow_right (by decide) (by omega)) h
theorem prod_in {g a b p e : Nat} (hg : g = 1074) (hR : ProdR a b p e) (ha : sz a ≤ 2018 * 2^52) (hb : sz b ≤ 2018 * 2^52) (hlo : U a * U b = 0 ∨ 2^(g + 172) ≤ (U a * U b).natAbs) (hhi : (U a * U b).natAbs ≤ 1 * T0 * 2^g) :
  fin p ∧ fin e ∧ U p * 2^g = rnI g (U a * U b) ∧ U e * 2^g = U a * U b - U p * 2^g ∧ (U p).natAbs ≤ 1 * T0 ∧ (U e).natAbs ≤ 1 * T0 := by
 have hT : 1 * T0 * 2^g ≤ 2^50 * T0 * 2^g := Nat.mul_le_mul_right _ (Nat.mul_le_mul_right _ (by decide))
 obtain ⟨ip, fe, _, hs, hl⟩ := prod_law hg hR ha hb (lo_114 hlo) (Nat.le_trans hhi hT)
 have b := rn_bound (isF_Tg g 1 (by decide)) hhi
 rw [← ip.val, Int.natAbs_mul, Int.natAbs_pow] at b
 have bp := Nat.le_of_mul_le_mul_right b (Nat.two_pow_pos g)
 refine ⟨ip.fin, fe, ip.val, ?_, bp, by omega⟩
 rw [Int.add_mul] at hs; omega
theorem mul_law {xh xl yh yl zh zl : Nat} (h : MulR xh xl yh yl zh zl) (X : Frm xh xl) (Y : Frm yh yl) (fx : fitS xh) (fy : fitS yh) :
  Frm zh zl ∧ ∃ g, g = 1074 ∧ 2^102 * (V zh zl * 2^g - V xh xl * V yh yl).natAbs ≤ (V xh xl * V yh yl).natAbs := by
 obtain ⟨g, hg⟩ : ∃ g : Nat, g = 1074 := ⟨_, rfl⟩
 obtain ⟨p, e, m1, m2, c, w, h1, h2, h3, h4, h5, h6⟩ := h
 have lx := X.low_le
 have ly := Y.low_le
 obtain ⟨_, n, k, hn, hk, lox, hix⟩ := fit_bounds fx
 obtain ⟨_, n', k', hn', hk', loy, hiy⟩ := fit_bounds fy
 have lo := prod_lo (a := xh) (b := yh) hg (lox.imp id fun h => ⟨n, by omega, h⟩) (loy.imp id fun h => ⟨n', by omega, h⟩)
 have hi : ∀ u v : Int, u.natAbs ≤ 2^k → v.natAbs ≤ 2^k' → (u * v).natAbs ≤ 1 * T0 * 2^g := by
  intro u v hu hv
  rw [Int.natAbs_mul, Nat.one_mul]
  refine Nat.le_trans (Nat.mul_le_mul hu hv) ?_
  unfold T0
  rw [← Nat.pow_add, ← Nat.pow_add]
  exact Nat.pow_le_pow_right (by decide) (by have := TE_eq; omega)
 obtain ⟨fp, fe, p1, e1, bp, be⟩ := prod_in hg h1 (by rcases fx with h | h <;> omega) (by rcases fy with h | h <;> omega) lo (hi _ _ hix hiy)
 obtain ⟨i2, b2⟩ := mul_in hg h2 X.fh Y.fl (hi _ _ hix (by omega)) (by decide)
 obtain ⟨i3, b3⟩ := mul_in hg h3 X.fl Y.fh (hi _ _ (by omega) hiy) (by decide)
 obtain ⟨i4, b4, c1⟩ := add_in (m := 2) g h4 i2.fin i3.fin (by omega) (by decide)
 obtain ⟨i5, b5, w1⟩ := add_in (m := 3) g h5 fe i4.fin (by omega) (by decide)
 obtain ⟨fzh, fzl, z1, z2, _, _⟩ := quick_law (m := 3) h6 fp i5.fin (by omega) b5 (by decide)
 have sc := rnI_scale 0 (U p + U w) g
 rw [Nat.zero_add, ← z1, Int.add_mul] at sc
 have A : MulIn g (U xh) (U xl) (U yh) (U yl) (U p * 2^g) (U e * 2^g) (U m1 * 2^g) (U m2 * 2^g) (U c * 2^g) (U w * 2^g) (U zh * 2^g) (U zl * 2^g) :=
  ⟨X.low, Y.low, lo_E lo, p1, e1, Int.dvd_mul_left _ _, i2.val, i3.val, c1, w1, sc.symm, fun F => by have := z2 (Fst_down F); rw [← Int.add_mul, ← this, Int.add_mul]; omega⟩
 obtain ⟨F, r⟩ := mul_dd A
 have e2 := z2 (Fst_down F)
 obtain ⟨zz, k1, k2, k3⟩ := h6
 refine ⟨⟨k1.lt, k3.lt, fzh, fzl, by rw [e2]; exact z1⟩, g, hg, ?_⟩
 unfold V
 rw [Int.add_mul]
 exact r
theorem mulf_law {g xh xl f zh zl : Nat} (hg : g = 1074) (h : MulfR xh xl f zh zl) (X : Frm xh xl) (sx : sz xh ≤ 2018 * 2^52) (ff : fin f) (sf : sz f ≤ 2018 * 2^52) (lo : U xh * U f = 0 ∨ 2^(g + 172) ≤ (U xh * U f).natAbs) (hi : (U xh * U f).natAbs ≤ 1 * T0 * 2^g) :
  Frm zh zl ∧ 2^104 * (V zh zl * 2^g - V xh xl * U f).natAbs ≤ (U xh * U f).natAbs ∧ (U xh * U f).natAbs ≤ 2 * (V xh xl * U f).natAbs ∧ (U zh).natAbs ≤ 16 * T0 ∧ (U zl).natAbs ≤ 64 * T0 := by
 obtain ⟨p, e, m, vh, vl, w, h1, h2, h3, h4, h5⟩ := h
 have lx := X.low_le
 obtain ⟨fp, fe, p1, e1, bp, be⟩ := prod_in hg h1 sx sf lo hi
 have hi2 : (U xl * U f).natAbs ≤ 1 * T0 * 2^g := by
  refine Nat.le_trans ?_ hi
  rw [Int.natAbs_mul, Int.natAbs_mul]; exact Nat.mul_le_mul_right _ lx
 obtain ⟨i2, b2⟩ := mul_in hg h2 X.fl ff hi2 (by decide)
 obtain ⟨fvh, fvl, v1, v2, bvh, bvl⟩ := quick_law (m := 1) h3 fp i2.fin bp b2 (by decide)
 obtain ⟨i4, b4, w1⟩ := add_in (m := 5) g h4 fvl fe (by omega) (by decide)
 obtain ⟨fzh, fzl, z1, z2, bz1, bz2⟩ := quick_law (m := 5) h5 fvh i4.fin (by omega) b4 (by decide)
 have sc := rnI_scale 0 (U vh + U w) g
 rw [Nat.zero_add, ← z1, Int.add_mul] at sc
 have sv := rnI_scale 0 (U p + U m) g
 rw [Nat.zero_add, ← v1, Int.add_mul] at sv
 have A : MulfIn g (U xh) (U xl) (U f) (U p * 2^g) (U e * 2^g) (U m * 2^g) (U vh * 2^g) (U vl * 2^g) (U w * 2^g) (U zh * 2^g) (U zl * 2^g) :=
  ⟨X.low, lo_E lo, p1, e1, Int.dvd_mul_left _ _, i2.val, sv.symm, fun F => by have := v2 (Fst_down F); rw [← Int.add_mul, ← this, Int.add_mul]; omega, w1, sc.symm, fun F => by have := z2 (Fst_down F); rw [← Int.add_mul, ← this, Int.add_mul]; omega⟩
 obtain ⟨F1, F2, r, r2⟩ := mulf_dd A
 have e2 := z2 (Fst_down F2)
 obtain ⟨zz, k1, k2, k3⟩ := h5
 refine ⟨⟨k1.lt, k3.lt, fzh, fzl, by rw [e2]; exact z1⟩, ?_, r2, by omega, by omega⟩
 unfold V
 rw [Int.add_mul]
 exact r
end Go.Proofs.YtapikmfckpgjoaaGreatDoor.DdB
