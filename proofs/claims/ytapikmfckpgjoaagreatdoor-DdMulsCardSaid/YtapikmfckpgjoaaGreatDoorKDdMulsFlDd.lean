/- Double-doubles in whole numbers: the quick sum, sums, products and quotients, their errors; the quotient of two floats. Plain Lean; no program in sight. No condition. -/
import Derived.Test.YtapikmfckpgjoaaGreatDoorKDdMulsFl
set_option linter.unusedVariables false
namespace Fl
theorem ke_le_of {g j : Nat} {v : Int} (hg : g ≤ j) (h : (v.natAbs : Int) < 2^53 * 2^j) : ke g v ≤ j := by
  by_cases hk : ke g v = g
  · omega
  · have h1 := ke_le hk
    by_cases hc : ke g v ≤ j
    · exact hc
    · have := pow_lt_of (show j < ke g v by omega)
      omega
theorem rnI_of_dvd {g : Nat} {v : Int} (h : (2:Int)^(ke g v) ∣ v) : rnI g v = v := by
  rw [natAbs_dvd'] at h
  have : rn g v.natAbs = v.natAbs := rhe_exact h
  unfold rnI
  rw [this]
  split <;> omega
theorem ke_rn (g : Nat) (v : Int) : ke g v ≤ ke g (rnI g v) := by
  by_cases hk : ke g v = g
  · have := ke_ge g (rnI g v); omega
  · have h1 := ke_le hk
    have h4 : rhe v.natAbs (kx g v.natAbs) ≥ 2^52 := rhe_lo (by unfold ke at h1; exact_mod_cast h1)
    have h5 : 2^52 * 2^(ke g v) ≤ (rnI g v).natAbs := by
      rw [rnI_natAbs]
      exact Nat.mul_le_mul_right _ h4
    have h6 : 2^52 * (2:Int)^(ke g v) ≤ (rnI g v).natAbs := by exact_mod_cast h5
    have h7 := ke_lt g (rnI g v)
    by_cases hc : ke g v ≤ ke g (rnI g v)
    · exact hc
    · have := pow_lt_of (show ke g (rnI g v) < ke g v by omega)
      omega
theorem rel0 {g : Nat} {v : Int} (h : (2:Int)^g ∣ v) : 2^53 * ((rnI g v - v).natAbs : Int) ≤ v.natAbs := by
  by_cases hk : ke g v = g
  · rw [rnI_of_dvd (by rw [hk]; exact h)]
    omega
  · have h1 := ke_le hk
    have h2 := rnI_err g v
    omega
theorem relg (g : Nat) (v : Int) : 2^53 * ((rnI g v - v).natAbs : Int) ≤ v.natAbs + 2^52 * 2^g := by
  have h2 := rnI_err g v
  by_cases hk : ke g v = g
  · rw [hk] at h2; omega
  · have h1 := ke_le hk
    have := ipw g
    omega
theorem dvd0 (v : Int) : (2:Int)^0 ∣ v := by rw [Int.pow_zero]; exact Int.one_dvd _
def Fst (g : Nat) (a b : Int) : Prop := a = 0 ∨ b.natAbs ≤ a.natAbs ∨ (2:Int)^(ke g b) ∣ a
theorem fast_any {g : Nat} {a b : Int} (ha : isF g a) (hb : isF g b) (h : Fst g a b) :
    rnI g (rnI g (a + b) - a) = rnI g (a + b) - a ∧ rnI g (b - (rnI g (a + b) - a)) = a + b - rnI g (a + b) := by
  by_cases hle : b.natAbs ≤ a.natAbs
  · exact fast_sum ha hb (Or.inr hle)
  rcases h with h | h | hd
  · exact fast_sum ha hb (Or.inl h)
  · exact absurd h hle
  have hdb := isF_dvd hb
  have hB := ke_lt g b
  have hP := ipw (ke g b)
  have hs : (2:Int)^(ke g b) ∣ a + b := Int.dvd_add hd hdb
  by_cases hx : ((a + b).natAbs : Int) ≤ 2^53 * 2^(ke g b)
  · have e := rnI_exact (isF_of (ke g b) (ke_ge g b) hs hx)
    rw [e]
    have e1 : a + b - a = b := by omega
    have e2 : a + b - (a + b) = 0 := by omega
    rw [e1, e2, Int.sub_self]
    exact ⟨rnI_exact hb, rnI_exact (isF_zero g)⟩
  · have hr := rn_dvd_of (g := g) hs
    have hk : ke g (a + b) ≤ ke g b + 1 := by
      refine ke_le_of (by have := ke_ge g b; omega) ?_
      rw [Int.pow_succ]; omega
    have he := rnI_err g (a + b)
    have hE := pow_le_of hk
    rw [Int.pow_succ] at hE
    have hbb : (b.natAbs : Int) + 2^(ke g b) ≤ 2^53 * 2^(ke g b) := by
      apply mul_apart hP _ (Int.dvd_mul_left _ _) hB
      rw [natAbs_dvd'] at hdb
      exact_mod_cast hdb
    have f1 : isF g (rnI g (a + b) - a) := isF_of (ke g b) (ke_ge g b) (Int.dvd_sub hr hd) (by omega)
    refine ⟨rnI_exact f1, ?_⟩
    have e : b - (rnI g (a + b) - a) = a + b - rnI g (a + b) := by omega
    rw [e]
    exact rnI_exact (isF_of (ke g b) (ke_ge g b) (Int.dvd_sub hs hr) (by omega))
theorem abs_add3 (a b : Int) : (a + b).natAbs ≤ a.natAbs + b.natAbs := Int.natAbs_add_le a b
theorem tri (a b : Int) : a.natAbs ≤ b.natAbs + (a - b).natAbs := by omega
theorem tri' (a b : Int) : b.natAbs ≤ a.natAbs + (a - b).natAbs := by omega
theorem asc (a b : Int) : (a - b).natAbs = (b - a).natAbs := by omega
theorem adda (a b : Int) : a.natAbs ≤ (a + b).natAbs + b.natAbs := by omega
theorem rel0n {g : Nat} {v : Int} (h : (2:Int)^g ∣ v) : 2^53 * (rnI g v - v).natAbs ≤ v.natAbs := by
  have := rel0 h; omega
theorem relgn (g : Nat) (v : Int) : 2^53 * (rnI g v - v).natAbs ≤ v.natAbs + 2^52 * 2^g := by
  have h := relg g v
  have e : (2:Int)^g = ((2^g : Nat) : Int) := by push_cast; rfl
  rw [e] at h
  generalize 2^g = G at *
  omega
theorem sum_lo (xh xl yh yl : Int) : (xh + yh).natAbs ≤ (xh + xl + (yh + yl)).natAbs + (xl + yl).natAbs := by omega
theorem add_far {a X Y xl yl t tl th sl p d1 c sh q vl r d2 S d w vh : Nat}
    (hm : X + Y ≤ 3 * a) (hxl : 2^53 * xl ≤ X + xl) (hyl : 2^53 * yl ≤ Y + yl) (ht : t ≤ xl + yl) (htl : 2^53 * tl ≤ t) (hth : th ≤ t + tl)
    (hsl : 2^53 * sl ≤ a) (hp : p ≤ sl + th) (hd1 : 2^53 * d1 ≤ p) (hc : c ≤ p + d1) (hsh : sh ≤ a + sl) (hsh' : a ≤ sh + sl) (hq : q ≤ sh + c) (hq' : sh ≤ q + c)
    (hvl : 2^53 * vl ≤ q) (hr : r ≤ tl + vl) (hd2 : 2^53 * d2 ≤ r) (hS : a ≤ S + t) (hd : d ≤ d1 + d2) (hw : w ≤ r + d2) (hvh : q ≤ vh + vl) :
    c ≤ sh ∧ w ≤ vh ∧ 2^103 * d ≤ S := by
  have k1 : 16 * (2^53 * t) ≤ 49 * a := by omega
  have k2 : 2^53 * (16 * tl) ≤ a := by omega
  have k3 : 2^53 * (16 * p) ≤ 66 * a := by omega
  have k4 : 2^53 * (2^53 * (16 * d1)) ≤ 66 * a := by omega
  have k5 : 16 * q ≤ 17 * a := by omega
  have k6 : 2^53 * (16 * vl) ≤ 17 * a := by omega
  have k7 : 2^53 * (16 * r) ≤ 18 * a := by omega
  have k8 : 2^53 * (2^53 * (16 * d2)) ≤ 18 * a := by omega
  have k9 : 16 * a ≤ 17 * S := by omega
  refine ⟨by omega, by omega, by omega⟩
theorem low_rel {xh xl : Int} (h : xh = rnI 0 (xh + xl)) : 2^53 * xl.natAbs ≤ xh.natAbs + xl.natAbs := by
  have r := rel0 (dvd0 (xh + xl))
  rw [← h] at r
  omega
theorem low_ke {xh xl : Int} (h : xh = rnI 0 (xh + xl)) : 2 * (xl.natAbs : Int) ≤ 2^(ke 0 xh) := by
  have r := rnI_err 0 (xh + xl)
  have k := ke_rn 0 (xh + xl)
  rw [← h] at r k
  have := pow_le_of k
  omega
structure AddIn (xh xl yh yl sh sl th tl c vh vl w zh zl : Int) : Prop where
  fxh : isF 0 xh
  fxl : isF 0 xl
  fyh : isF 0 yh
  fyl : isF 0 yl
  hx : xh = rnI 0 (xh + xl)
  hy : yh = rnI 0 (yh + yl)
  h1 : sh = rnI 0 (xh + yh)
  h2 : sl = xh + yh - sh
  h3 : th = rnI 0 (xl + yl)
  h4 : tl = xl + yl - th
  h5 : c = rnI 0 (sl + th)
  h6 : vh = rnI 0 (sh + c)
  h7 : Fst 0 sh c → vl = sh + c - vh
  h8 : w = rnI 0 (tl + vl)
  h9 : zh = rnI 0 (vh + w)
  h10 : Fst 0 vh w → zl = vh + w - zh
theorem far_first {a X Y xl yl t tl th sl p d1 c sh : Nat}
    (hm : X + Y ≤ 3 * a) (hxl : 2^53 * xl ≤ X + xl) (hyl : 2^53 * yl ≤ Y + yl) (ht : t ≤ xl + yl) (htl : 2^53 * tl ≤ t) (hth : th ≤ t + tl)
    (hsl : 2^53 * sl ≤ a) (hp : p ≤ sl + th) (hd1 : 2^53 * d1 ≤ p) (hc : c ≤ p + d1) (hsh' : a ≤ sh + sl) : c ≤ sh := by
  have k1 : 16 * (2^53 * t) ≤ 49 * a := by omega
  have k2 : 2^53 * (16 * tl) ≤ a := by omega
  have k3 : 2^53 * (16 * p) ≤ 66 * a := by omega
  omega
section
variable {xh xl yh yl sh sl th tl c vh vl w zh zl : Int}
theorem add_a (fxh : isF 0 xh) (fxl : isF 0 xl) (fyh : isF 0 yh) (fyl : isF 0 yl) (hx : xh = rnI 0 (xh + xl)) (hy : yh = rnI 0 (yh + yl))
    (h1 : sh = rnI 0 (xh + yh)) (h2 : sl = xh + yh - sh) (h3 : th = rnI 0 (xl + yl)) (h4 : tl = xl + yl - th) (h5 : c = rnI 0 (sl + th)) (h6 : vh = rnI 0 (sh + c))
    (h7 : Fst 0 sh c → vl = sh + c - vh) (h8 : w = rnI 0 (tl + vl)) (h10 : Fst 0 vh w → zl = vh + w - zh) (hA : xh.natAbs + yh.natAbs ≤ 3 * (xh + yh).natAbs) :
    Fst 0 sh c ∧ Fst 0 vh w ∧ 2^103 * (zh + zl - (xh + xl + (yh + yl))).natAbs ≤ (xh + xl + (yh + yl)).natAbs := by
  have r1 := rel0n (dvd0 (xh + yh))
  have r3 := rel0n (dvd0 (xl + yl))
  have r5 := rel0n (dvd0 (sl + th))
  have r6 := rel0n (dvd0 (sh + c))
  have r8 := rel0n (dvd0 (tl + vl))
  rw [← h1, asc, ← h2] at r1
  rw [← h3, asc, ← h4] at r3
  rw [← h5] at r5
  rw [← h6, asc] at r6
  rw [← h8] at r8
  have q2 := tri' (xl + yl) th
  rw [← h4] at q2
  have q6 := tri' (xh + yh) sh
  have q7 := tri (xh + yh) sh
  rw [← h2] at q6 q7
  have F1' := far_first hA (low_rel hx) (low_rel hy) (abs_add3 xl yl) r3 q2 r1 (abs_add3 sl th) r5 (tri c (sl + th)) q7
  have F1 : Fst 0 sh c := Or.inr (Or.inl F1')
  have e7 := h7 F1
  rw [← e7] at r6
  have q12 := tri (sh + c) vh
  rw [← e7] at q12
  obtain ⟨_, g2, g3⟩ := add_far hA (low_rel hx) (low_rel hy) (abs_add3 xl yl) r3 q2 r1 (abs_add3 sl th) r5 (tri c (sl + th)) q6 q7 (abs_add3 sh c) (adda sh c) r6 (abs_add3 tl vl) r8 (sum_lo xh xl yh yl) (Nat.le_refl ((c - (sl + th)).natAbs + (w - (tl + vl)).natAbs)) (tri w (tl + vl)) q12
  have F2 : Fst 0 vh w := Or.inr (Or.inl g2)
  have e10 := h10 F2
  refine ⟨F1, F2, ?_⟩
  have eq : zh + zl - (xh + xl + (yh + yl)) = (c - (sl + th)) + (w - (tl + vl)) := by
    clear hA r1 r3 r5 r6 r8 q2 q6 q7 q12 F1' g2 g3 h1 h3 h5 h6 h8 hx hy
    omega
  rw [eq]
  exact Nat.le_trans (Nat.mul_le_mul_left _ (abs_add3 _ _)) g3
theorem near_size (h1 : yh.natAbs ≤ xh.natAbs) (hA : ¬ xh.natAbs + yh.natAbs ≤ 3 * (xh + yh).natAbs) : xh.natAbs < 2 * yh.natAbs ∧ (xh + yh).natAbs ≤ yh.natAbs := by omega
theorem near_last {q r d vh' vl' tl' S w' : Nat} (a1 : 2^53 * vl' ≤ q) (a2 : 2^54 * tl' ≤ q) (a3 : r ≤ tl' + vl') (a4 : w' ≤ r + d) (a5 : q ≤ vh' + vl') (a6 : q ≤ S + tl') (a7 : 2^53 * d ≤ r) : w' ≤ vh' ∧ 2^103 * d ≤ S := by
  have b1 : 2^53 * (2 * r) ≤ 3 * q := by omega
  have b2 : 2^53 * (2^53 * (2 * d)) ≤ 3 * q := by omega
  have b3 : q ≤ 2 * S := by omega
  refine ⟨by omega, by omega⟩
theorem add_b (fxh : isF 0 xh) (fxl : isF 0 xl) (fyh : isF 0 yh) (fyl : isF 0 yl) (hx : xh = rnI 0 (xh + xl)) (hy : yh = rnI 0 (yh + yl))
    (h1 : sh = rnI 0 (xh + yh)) (h2 : sl = xh + yh - sh) (h3 : th = rnI 0 (xl + yl)) (h4 : tl = xl + yl - th) (h5 : c = rnI 0 (sl + th)) (h6 : vh = rnI 0 (sh + c))
    (h7 : Fst 0 sh c → vl = sh + c - vh) (h8 : w = rnI 0 (tl + vl)) (h10 : Fst 0 vh w → zl = vh + w - zh) (hle : yh.natAbs ≤ xh.natAbs) (hA : ¬ xh.natAbs + yh.natAbs ≤ 3 * (xh + yh).natAbs) :
    Fst 0 sh c ∧ Fst 0 vh w ∧ 2^103 * (zh + zl - (xh + xl + (yh + yl))).natAbs ≤ (xh + xl + (yh + yl)).natAbs := by
  obtain ⟨hlt, hsum⟩ := near_size hle hA
  clear hA
  have kY := ke_lt 0 yh
  have pY := ipw (ke 0 yh)
  have km := ke_mono (g := 0) hle
  have dY : (2:Int)^(ke 0 yh) ∣ xh + yh := Int.dvd_add (Int.dvd_trans (dvd_pow_le km) (isF_dvd fxh)) (isF_dvd fyh)
  have es : sh = xh + yh := by rw [h1]; exact rnI_exact (isF_of (ke 0 yh) (Nat.zero_le _) dY (by omega))
  have el : sl = 0 := by rw [h2, es]; exact Int.sub_self _
  have fth : isF 0 th := by rw [h3]; exact rnI_isF _ _
  have ec : c = th := by rw [h5, el, Int.zero_add]; exact rnI_exact fth
  subst ec
  clear h5
  have kx' : ke 0 xh ≤ ke 0 yh + 1 := ke_le_of (Nat.zero_le _) (by rw [Int.pow_succ]; omega)
  have lx2 := low_ke hx
  have ly2 := low_ke hy
  have px := pow_le_of kx'
  rw [Int.pow_succ] at px
  have r3 := rel0n (dvd0 (xl + yl))
  rw [← h3] at r3
  have ht : c.natAbs ≤ 2 * xl.natAbs + 2 * yl.natAbs := by
    have := tri c (xl + yl)
    have := abs_add3 xl yl
    omega
  have kt : ke 0 c ≤ ke 0 yh := ke_le_of (Nat.zero_le _) (by clear r3 hlt hsum kY; omega)
  have dG : (2:Int)^(ke 0 c) ∣ sh := by rw [es]; exact Int.dvd_trans (dvd_pow_le kt) dY
  have F1 : Fst 0 sh c := Or.inr (Or.inr dG)
  have e7 := h7 F1
  have ft := isF_dvd fth
  have dG2 : (2:Int)^(ke 0 c) ∣ sh + c := Int.dvd_add dG ft
  have pG := ipw (ke 0 c)
  have ltl : 2 * (tl.natAbs : Int) ≤ 2^(ke 0 c) := by
    have a1 := rnI_err 0 (xl + yl)
    have a2 := pow_le_of (ke_rn 0 (xl + yl))
    rw [← h3] at a1 a2
    rw [h4, asc]
    clear r3 ht lx2 ly2 px kY hlt hsum
    omega
  have ftl : isF 0 tl := by rw [h4, h3]; exact err_isF fxl fyl
  clear r3 ht lx2 ly2 px kY pY hlt hsum kx' kt km dY
  by_cases hB : ((sh + c).natAbs : Int) ≤ 2^53 * 2^(ke 0 c)
  · have ev : vh = sh + c := by rw [h6]; exact rnI_exact (isF_of (ke 0 c) (Nat.zero_le _) dG2 hB)
    have evl : vl = 0 := by rw [e7, ev]; exact Int.sub_self _
    have ew : w = tl := by rw [h8, evl, Int.add_zero]; exact rnI_exact ftl
    have F2 : Fst 0 vh w := by
      by_cases h0 : vh = 0
      · exact Or.inl h0
      · refine Or.inr (Or.inl ?_)
        have : (2:Int)^(ke 0 c) ≤ vh.natAbs := by
          rw [← ev] at dG2
          rw [natAbs_dvd'] at dG2
          have := Nat.le_of_dvd (by omega) dG2
          exact_mod_cast this
        rw [ew]
        clear hB hle
        omega
    have e10 := h10 F2
    refine ⟨F1, F2, ?_⟩
    have eq : zh + zl - (xh + xl + (yh + yl)) = 0 := by rw [e10, ew, ev, es, h4]; clear hB hle ltl; omega
    rw [eq]
    exact Nat.zero_le _
  · have r6 := rel0n (dvd0 (sh + c))
    have r8 := rel0n (dvd0 (tl + vl))
    rw [← h6, asc, ← e7] at r6
    rw [← h8] at r8
    have a2 : 2^54 * tl.natAbs ≤ (sh + c).natAbs := by clear r6 r8 hle; omega
    have a5 := tri (sh + c) vh
    rw [← e7] at a5
    have a6 : (sh + c).natAbs ≤ (xh + xl + (yh + yl)).natAbs + tl.natAbs := by
      have e : xh + xl + (yh + yl) = sh + c + tl := by rw [es, h4]; clear r6 r8 hle a2 a5 ltl hB; omega
      rw [e]
      exact adda _ _
    obtain ⟨g1, g2⟩ := near_last r6 a2 (abs_add3 tl vl) (tri w (tl + vl)) a5 a6 r8
    have F2 : Fst 0 vh w := Or.inr (Or.inl g1)
    have e10 := h10 F2
    refine ⟨F1, F2, ?_⟩
    have eq : zh + zl - (xh + xl + (yh + yl)) = w - (tl + vl) := by rw [e10, e7, es, h4]; clear r6 r8 hle a2 a5 a6 ltl hB g1 g2; omega
    rw [eq]
    exact g2
end
theorem add_core {xh xl yh yl sh sl th tl c vh vl w zh zl : Int} (A : AddIn xh xl yh yl sh sl th tl c vh vl w zh zl) (hle : yh.natAbs ≤ xh.natAbs) :
    Fst 0 sh c ∧ Fst 0 vh w ∧ 2^103 * (zh + zl - (xh + xl + (yh + yl))).natAbs ≤ (xh + xl + (yh + yl)).natAbs := by
  obtain ⟨fxh, fxl, fyh, fyl, hx, hy, h1, h2, h3, h4, h5, h6, h7, h8, h9, h10⟩ := A
  by_cases hA : xh.natAbs + yh.natAbs ≤ 3 * (xh + yh).natAbs
  · exact add_a fxh fxl fyh fyl hx hy h1 h2 h3 h4 h5 h6 h7 h8 h10 hA
  · exact add_b fxh fxl fyh fyl hx hy h1 h2 h3 h4 h5 h6 h7 h8 h10 hle hA
theorem add_dd {xh xl yh yl sh sl th tl c vh vl w zh zl : Int} (A : AddIn xh xl yh yl sh sl th tl c vh vl w zh zl) :
    Fst 0 sh c ∧ Fst 0 vh w ∧ 2^103 * (zh + zl - (xh + xl + (yh + yl))).natAbs ≤ (xh + xl + (yh + yl)).natAbs := by
  by_cases h : yh.natAbs ≤ xh.natAbs
  · exact add_core A h
  · obtain ⟨fxh, fxl, fyh, fyl, hx, hy, h1, h2, h3, h4, h5, h6, h7, h8, h9, h10⟩ := A
    have B : AddIn yh yl xh xl sh sl th tl c vh vl w zh zl := ⟨fyh, fyl, fxh, fxl, hy, hx, by rw [Int.add_comm]; exact h1, by rw [Int.add_comm]; exact h2, by rw [Int.add_comm]; exact h3, by rw [Int.add_comm yl]; exact h4, h5, h6, h7, h8, h9, h10⟩
    have := add_core B (by omega)
    rw [Int.add_comm (yh + yl)] at this
    exact this
end Fl
namespace Fl
theorem isF_gdvd {g : Nat} {v : Int} (h : isF g v) : (2:Int)^g ∣ v := by
  obtain ⟨j, a, b, _⟩ := h
  exact Int.dvd_trans (dvd_pow_le a) b
theorem rn0 (g : Nat) : rnI g 0 = 0 := rnI_exact (isF_zero g)
theorem mul_sizes {M x0 y0 z0 E dx dy x y s dc c e q dw w p S d : Nat}
    (hx0 : 2^53 * x0 ≤ M + x0) (hy0 : 2^53 * y0 ≤ M + y0) (hz0 : 2^53 * z0 ≤ y0 + z0) (hE : 2^120 * E ≤ M) (hdx : 2^53 * dx ≤ x0 + E) (hdy : 2^53 * dy ≤ y0 + E) (hx : x ≤ x0 + dx) (hy : y ≤ y0 + dy) (hs : s ≤ x + y) (hdc : 2^53 * dc ≤ s) (hc : c ≤ s + dc) (he : 2^53 * e ≤ M + E) (hq : q ≤ e + c) (hdw : 2^53 * dw ≤ q) (hw : w ≤ q + dw) (hp : M ≤ p + e) (hS : M ≤ S + x0 + y0 + z0) (hd : d ≤ dw + dc + dx + dy + z0) :
    w ≤ p ∧ 2^102 * d ≤ S := by
  have k1 : 2^53 * (16 * x0) ≤ 17 * M := by clear hy0 hz0 hE hdx hdy hx hy hs hdc hc he hq hdw hw hp hS hd; omega
  have k2 : 2^53 * (16 * y0) ≤ 17 * M := by clear hx0 hz0 hE hdx hdy hx hy hs hdc hc he hq hdw hw hp hS hd k1; omega
  have k3 : 2^53 * (2^53 * (16 * z0)) ≤ 18 * M := by clear hx0 hy0 hE hdx hdy hx hy hs hdc hc he hq hdw hw hp hS hd k1; omega
  have k4 : 2^53 * (2^53 * (16 * dx)) ≤ 18 * M := by clear hx0 hy0 hz0 hdy hx hy hs hdc hc he hq hdw hw hp hS hd k2 k3; omega
  have k5 : 2^53 * (2^53 * (16 * dy)) ≤ 18 * M := by clear hx0 hy0 hz0 hdx hx hy hs hdc hc he hq hdw hw hp hS hd k1 k3 k4; omega
  have k6a : 2^53 * (32 * x) ≤ 35 * M := by clear hx0 hy0 hz0 hE hdx hdy hy hs hdc hc he hq hdw hw hp hS hd k2 k3 k5; omega
  have k6b : 2^53 * (32 * y) ≤ 35 * M := by clear hx0 hy0 hz0 hE hdx hdy hx hs hdc hc he hq hdw hw hp hS hd k1 k3 k4 k6a; omega
  have k6 : 2^53 * (16 * s) ≤ 35 * M := by clear hx0 hy0 hz0 hE hdx hdy hx hy hdc hc he hq hdw hw hp hS hd k1 k2 k3 k4 k5; omega
  have k7 : 2^53 * (2^53 * (16 * dc)) ≤ 35 * M := by clear hx0 hy0 hz0 hE hdx hdy hx hy hs hc he hq hdw hw hp hS hd k1 k2 k3 k4 k5 k6a k6b; omega
  have k8 : 2^53 * (16 * c) ≤ 36 * M := by clear hx0 hy0 hz0 hE hdx hdy hx hy hs hdc he hq hdw hw hp hS hd k1 k2 k3 k4 k5 k6a k6b; omega
  have k9 : 2^53 * (16 * e) ≤ 17 * M := by clear hx0 hy0 hz0 hdx hdy hx hy hs hdc hc hq hdw hw hp hS hd k1 k2 k3 k4 k5 k6a k6b k6 k7 k8; omega
  have k10 : 2^53 * (16 * q) ≤ 53 * M := by clear hx0 hy0 hz0 hE hdx hdy hx hy hs hdc hc he hdw hw hp hS hd k1 k2 k3 k4 k5 k6a k6b k6 k7; omega
  have k11 : 2^53 * (2^53 * (16 * dw)) ≤ 53 * M := by clear hx0 hy0 hz0 hE hdx hdy hx hy hs hdc hc he hq hw hp hS hd k1 k2 k3 k4 k5 k6a k6b k6 k7 k8 k9; omega
  have k12 : 2^53 * (2^53 * (16 * d)) ≤ 142 * M := by clear hx0 hy0 hz0 hE hdx hdy hx hy hs hdc hc he hq hdw hw hp hS k1 k2 k6a k6b k6 k8 k9 k10; omega
  have k13 : 16 * M ≤ 17 * S := by clear hx0 hy0 hz0 hE hdx hdy hx hy hs hdc hc he hq hdw hw hp hd k4 k5 k6a k6b k6 k7 k8 k9 k10 k11 k12; omega
  have k14 : 2^53 * (16 * w) ≤ 54 * M := by clear hx0 hy0 hz0 hE hdx hdy hx hy hs hdc hc he hq hdw hp hS hd k1 k2 k3 k4 k5 k6a k6b k6 k7 k8 k9 k12 k13; omega
  refine ⟨?_, ?_⟩
  · clear hx0 hy0 hz0 hE hdx hdy hx hy hs hdc hc he hq hdw hw hS hd k1 k2 k3 k4 k5 k6a k6b k6 k7 k8 k10 k11 k12 k13; omega
  · clear hx0 hy0 hz0 hE hdx hdy hx hy hs hdc hc he hq hdw hw hp hS hd k1 k2 k3 k4 k5 k6a k6b k6 k7 k8 k9 k10 k11 k14; omega
theorem mulf_sizes {M y0 E dy y e p q vl r dw w vh S d : Nat}
    (hy0 : 2^53 * y0 ≤ M + y0) (hE : 2^120 * E ≤ M) (hdy : 2^53 * dy ≤ y0 + E) (hy : y ≤ y0 + dy) (he : 2^53 * e ≤ M + E) (hp : M ≤ p + e) (hp' : p ≤ M + e) (hq : q ≤ p + y) (hvl : 2^53 * vl ≤ q) (hr : r ≤ vl + e) (hdw : 2^53 * dw ≤ r) (hw : w ≤ r + dw) (hvh : q ≤ vh + vl) (hq' : p ≤ q + y) (hS : M ≤ S + y0) (hd : d ≤ dy + dw) :
    w ≤ vh ∧ 2^104 * d ≤ M ∧ M ≤ 2 * S := by
  have k1 : 2^53 * (16 * y0) ≤ 17 * M := by clear hE hdy hy he hp hp' hq hvl hr hdw hw hvh hq' hS hd; omega
  have k2 : 2^53 * (2^53 * (16 * dy)) ≤ 18 * M := by clear hy0 hy he hp hp' hq hvl hr hdw hw hvh hq' hS hd; omega
  have k3 : 2^53 * (16 * e) ≤ 17 * M := by clear hy0 hdy hy hp hp' hq hvl hr hdw hw hvh hq' hS hd k1 k2; omega
  have k3b : 2^53 * (16 * y) ≤ 18 * M := by clear hy0 hE hdy he hp hp' hq hvl hr hdw hw hvh hq' hS hd k3; omega
  have k4 : 16 * q ≤ 17 * M := by clear hy0 hE hdy hy he hp hvl hr hdw hw hvh hq' hS hd k1 k2; omega
  have k5 : 2^53 * (16 * vl) ≤ 17 * M := by clear hy0 hE hdy hy he hp hp' hq hr hdw hw hvh hq' hS hd k1 k2 k3 k3b; omega
  have k6 : 2^53 * (16 * r) ≤ 34 * M := by clear hy0 hE hdy hy he hp hp' hq hvl hdw hw hvh hq' hS hd k1 k2 k3b k4; omega
  have k7 : 2^53 * (2^53 * (16 * dw)) ≤ 34 * M := by clear hy0 hE hdy hy he hp hp' hq hvl hr hw hvh hq' hS hd k1 k2 k3 k3b k4 k5; omega
  have k8 : 2^53 * (16 * w) ≤ 35 * M := by clear hy0 hE hdy hy he hp hp' hq hvl hr hdw hvh hq' hS hd k1 k2 k3 k3b k4 k5; omega
  have k9 : 2^53 * (2^53 * (16 * d)) ≤ 52 * M := by clear hy0 hE hdy hy he hp hp' hq hvl hr hdw hw hvh hq' hS k1 k3 k3b k4 k5 k6 k8; omega
  have k10 : 15 * M ≤ 16 * q := by clear hy0 hE hdy hy he hp' hq hvl hr hdw hw hvh hS hd k1 k2 k4 k5 k6 k7 k8 k9; omega
  refine ⟨?_, ?_, ?_⟩
  · clear hy0 hE hdy hy he hp hp' hq hvl hr hdw hw hq' hS hd k1 k2 k3 k3b k4 k6 k7 k9; omega
  · clear hy0 hE hdy hy he hp hp' hq hvl hr hdw hw hvh hq' hS hd k1 k2 k3 k3b k4 k5 k6 k7 k8 k10; omega
  · clear hy0 hE hdy hy he hp hp' hq hvl hr hdw hw hvh hq' hd k2 k3 k3b k4 k5 k6 k7 k8 k9 k10; omega
theorem mulf_first {M y0 E dy y e p : Nat}
    (hy0 : 2^53 * y0 ≤ M + y0) (hE : 2^120 * E ≤ M) (hdy : 2^53 * dy ≤ y0 + E) (hy : y ≤ y0 + dy) (he : 2^53 * e ≤ M + E) (hp : M ≤ p + e) :
    y ≤ p := by
  have k1 : 2^53 * (16 * y0) ≤ 17 * M := by clear hE hdy hy he hp; omega
  have k2 : 2^53 * (2^53 * (16 * dy)) ≤ 18 * M := by clear hy0 hy he hp; omega
  have k3 : 2^53 * (16 * e) ≤ 17 * M := by clear hy0 hdy hy hp k1 k2; omega
  have k3b : 2^53 * (16 * y) ≤ 18 * M := by clear hy0 hE hdy he hp k3; omega
  clear hy0 hE hdy hy he k1 k2; omega
theorem div_sizes {α η M dq b0 β dR R rl u1 e1 d1 u2 e2 d2 u3 e3 L eT T t1 S d : Nat}
    (hη : 2^120 * η ≤ α) (hdq : 2^53 * dq ≤ 2 * α + 2^53 * η) (hM : M ≤ α + dq) (hM' : α ≤ M + dq) (hb0 : 2^53 * b0 ≤ M + b0) (hβ : 2^53 * β ≤ α + β) (hdR : 2^104 * dR ≤ M) (hR : R ≤ M + b0 + dR) (hrl : 2^53 * rl ≤ R) (hu1 : u1 ≤ dq + b0 + dR + rl) (he1 : 2^53 * e1 ≤ u1) (hd1 : d1 ≤ u1 + e1) (hu2 : u2 ≤ β + rl) (he2 : 2^53 * e2 ≤ u2) (hd2 : d2 ≤ u2 + e2) (hu3 : u3 ≤ d1 + d2) (he3 : 2^53 * e3 ≤ u3) (hL : L ≤ u3 + e3) (heT : 2^53 * eT ≤ 2 * L + 2^53 * η) (hT : T ≤ L + eT) (ht1 : 2^53 * t1 ≤ T + t1) (hS : α ≤ S + β) (hd : d ≤ t1 + eT + e1 + e2 + e3 + dR) :
    T ≤ M ∧ 2^100 * d ≤ S := by
  have k1 : 2^53 * (16 * dq) ≤ 33 * α := by clear hM hM' hb0 hβ hdR hR hrl hu1 he1 hd1 hu2 he2 hd2 hu3 he3 hL heT hT ht1 hS hd; omega
  have k2 : 16 * M ≤ 17 * α := by clear hη hdq hM' hb0 hβ hdR hR hrl hu1 he1 hd1 hu2 he2 hd2 hu3 he3 hL heT hT ht1 hS hd; omega
  have k3 : 2^53 * (16 * b0) ≤ 18 * α := by clear hη hdq hM hM' hβ hdR hR hrl hu1 he1 hd1 hu2 he2 hd2 hu3 he3 hL heT hT ht1 hS hd k1; omega
  have k4 : 2^53 * (16 * β) ≤ 17 * α := by clear hη hdq hM hM' hb0 hdR hR hrl hu1 he1 hd1 hu2 he2 hd2 hu3 he3 hL heT hT ht1 hS hd k1 k2 k3; omega
  have k5 : 2^53 * (2^53 * (16 * dR)) ≤ 68 * α := by clear hη hdq hM hM' hb0 hβ hR hrl hu1 he1 hd1 hu2 he2 hd2 hu3 he3 hL heT hT ht1 hS hd k1 k3 k4; omega
  have k6 : 16 * R ≤ 18 * α := by clear hη hdq hM hM' hb0 hβ hdR hrl hu1 he1 hd1 hu2 he2 hd2 hu3 he3 hL heT hT ht1 hS hd k1 k4; omega
  have k7 : 2^53 * (16 * rl) ≤ 18 * α := by clear hη hdq hM hM' hb0 hβ hdR hR hu1 he1 hd1 hu2 he2 hd2 hu3 he3 hL heT hT ht1 hS hd k1 k2 k3 k4 k5; omega
  have k8 : 2^53 * (16 * u1) ≤ 70 * α := by clear hη hdq hM hM' hb0 hβ hdR hR hrl he1 hd1 hu2 he2 hd2 hu3 he3 hL heT hT ht1 hS hd k2 k4 k6; omega
  have k9 : 2^53 * (2^53 * (16 * e1)) ≤ 70 * α := by clear hη hdq hM hM' hb0 hβ hdR hR hrl hu1 hd1 hu2 he2 hd2 hu3 he3 hL heT hT ht1 hS hd k1 k2 k3 k4 k5 k6 k7; omega
  have k10 : 2^53 * (16 * d1) ≤ 71 * α := by clear hη hdq hM hM' hb0 hβ hdR hR hrl hu1 he1 hu2 he2 hd2 hu3 he3 hL heT hT ht1 hS hd k1 k2 k3 k4 k5 k6 k7; omega
  have k11 : 2^53 * (16 * u2) ≤ 35 * α := by clear hη hdq hM hM' hb0 hβ hdR hR hrl hu1 he1 hd1 he2 hd2 hu3 he3 hL heT hT ht1 hS hd k1 k2 k3 k5 k6 k8 k9 k10; omega
  have k12 : 2^53 * (2^53 * (16 * e2)) ≤ 35 * α := by clear hη hdq hM hM' hb0 hβ hdR hR hrl hu1 he1 hd1 hu2 hd2 hu3 he3 hL heT hT ht1 hS hd k1 k2 k3 k4 k5 k6 k7 k8 k9 k10; omega
  have k13 : 2^53 * (16 * d2) ≤ 36 * α := by clear hη hdq hM hM' hb0 hβ hdR hR hrl hu1 he1 hd1 hu2 he2 hu3 he3 hL heT hT ht1 hS hd k1 k2 k3 k4 k5 k6 k7 k8 k9 k10; omega
  have k14 : 2^53 * (16 * u3) ≤ 107 * α := by clear hη hdq hM hM' hb0 hβ hdR hR hrl hu1 he1 hd1 hu2 he2 hd2 he3 hL heT hT ht1 hS hd k1 k2 k3 k4 k5 k6 k7 k8 k9 k11 k12; omega
  have k15 : 2^53 * (2^53 * (16 * e3)) ≤ 107 * α := by clear hη hdq hM hM' hb0 hβ hdR hR hrl hu1 he1 hd1 hu2 he2 hd2 hu3 hL heT hT ht1 hS hd k1 k2 k3 k4 k5 k6 k7 k8 k9 k10 k11 k12 k13; omega
  have k16 : 2^53 * (16 * L) ≤ 108 * α := by clear hη hdq hM hM' hb0 hβ hdR hR hrl hu1 he1 hd1 hu2 he2 hd2 hu3 he3 heT hT ht1 hS hd k1 k2 k3 k4 k5 k6 k7 k8 k9 k10 k11 k12 k13; omega
  have k17 : 2^53 * (2^53 * (16 * eT)) ≤ 217 * α := by clear hdq hM hM' hb0 hβ hdR hR hrl hu1 he1 hd1 hu2 he2 hd2 hu3 he3 hL hT ht1 hS hd k1 k2 k3 k4 k5 k6 k7 k8 k9 k10 k11 k12 k13 k14 k15; omega
  have k18 : 2^53 * (16 * T) ≤ 109 * α := by clear hη hdq hM hM' hb0 hβ hdR hR hrl hu1 he1 hd1 hu2 he2 hd2 hu3 he3 hL heT ht1 hS hd k1 k2 k3 k4 k5 k6 k7 k8 k9 k10 k11 k12 k13 k14 k15; omega
  have k19 : 2^53 * (2^53 * (16 * t1)) ≤ 110 * α := by clear hη hdq hM hM' hb0 hβ hdR hR hrl hu1 he1 hd1 hu2 he2 hd2 hu3 he3 hL heT hT hS hd k1 k2 k3 k4 k5 k6 k7 k8 k9 k10 k11 k12 k13 k14 k15 k16 k17; omega
  have k20 : 2^53 * (2^53 * (16 * d)) ≤ 607 * α := by clear hη hdq hM hM' hb0 hβ hdR hR hrl hu1 he1 hd1 hu2 he2 hd2 hu3 he3 hL heT hT ht1 hS k1 k2 k3 k4 k6 k7 k8 k10 k11 k13 k14 k16 k18; omega
  have k21 : 16 * α ≤ 17 * S := by clear hη hdq hM hM' hb0 hβ hdR hR hrl hu1 he1 hd1 hu2 he2 hd2 hu3 he3 hL heT hT ht1 hd k1 k2 k3 k5 k6 k7 k8 k9 k10 k11 k12 k13 k14 k15 k16 k17 k18 k19 k20; omega
  have k22 : 15 * α ≤ 16 * M := by clear hη hdq hM hb0 hβ hdR hR hrl hu1 he1 hd1 hu2 he2 hd2 hu3 he3 hL heT hT ht1 hS hd k2 k3 k4 k5 k6 k7 k8 k9 k10 k11 k12 k13 k14 k15 k16 k17 k18 k19 k20 k21; omega
  refine ⟨?_, ?_⟩
  · clear hη hdq hM hM' hb0 hβ hdR hR hrl hu1 he1 hd1 hu2 he2 hd2 hu3 he3 hL heT hT ht1 hS hd k1 k2 k3 k4 k5 k6 k7 k8 k9 k10 k11 k12 k13 k14 k15 k16 k17 k19 k20 k21; omega
  · clear hη hdq hM hM' hb0 hβ hdR hR hrl hu1 he1 hd1 hu2 he2 hd2 hu3 he3 hL heT hT ht1 hS hd k1 k2 k3 k4 k5 k6 k7 k8 k9 k10 k11 k12 k13 k14 k15 k16 k17 k18 k19 k22; omega
theorem abs_four (a b c d : Int) : a.natAbs ≤ (a + b + (c + d)).natAbs + b.natAbs + c.natAbs + d.natAbs := by omega
theorem abs_five (a b c d e : Int) : (a + b + c + d - e).natAbs ≤ a.natAbs + b.natAbs + c.natAbs + d.natAbs + e.natAbs := by omega
theorem abs_six (a b c d e f : Int) : (a + b + c + d + e - f).natAbs ≤ a.natAbs + b.natAbs + c.natAbs + d.natAbs + e.natAbs + f.natAbs := by omega
theorem tri2 (r a b : Int) : r.natAbs ≤ a.natAbs + b.natAbs + (r - (a + b)).natAbs := by omega
theorem tri4 (A q1 q2 R rl : Int) : (A - R).natAbs ≤ (q1 - A).natAbs + q2.natAbs + (R + rl - (q1 + q2)).natAbs + rl.natAbs := by omega
theorem asub (a b : Int) : (a - b).natAbs ≤ a.natAbs + b.natAbs := by omega
theorem rr_low (rh rl : Int) : (rh - (rh + rl)).natAbs = rl.natAbs := by omega
theorem rel_mul {a h l : Int} (H : 2^53 * l.natAbs ≤ h.natAbs + l.natAbs) : 2^53 * (a * l).natAbs ≤ (a * h).natAbs + (a * l).natAbs := by
  rw [Int.natAbs_mul, Int.natAbs_mul, ← Nat.mul_add, Nat.mul_left_comm]
  exact Nat.mul_le_mul_left _ H
structure MulIn (g : Nat) (ah al bh bl p e x y c w zh zl : Int) : Prop where
  ha : 2^53 * al.natAbs ≤ ah.natAbs + al.natAbs
  hb : 2^53 * bl.natAbs ≤ bh.natAbs + bl.natAbs
  hg : ah * bh = 0 ∨ 2^120 * (2^52 * 2^g) ≤ (ah * bh).natAbs
  h1 : p = rnI g (ah * bh)
  h2 : e = ah * bh - p
  fe : (2:Int)^g ∣ e
  h3 : x = rnI g (ah * bl)
  h4 : y = rnI g (al * bh)
  h5 : c = rnI g (x + y)
  h6 : w = rnI g (e + c)
  h7 : zh = rnI g (p + w)
  h8 : Fst g p w → zl = p + w - zh
theorem low_zero {h l : Int} (H : 2^53 * l.natAbs ≤ h.natAbs + l.natAbs) (h0 : h = 0) : l = 0 := by omega
theorem mul_dd {g : Nat} {ah al bh bl p e x y c w zh zl : Int} (A : MulIn g ah al bh bl p e x y c w zh zl) :
    Fst g p w ∧ 2^102 * (zh + zl - (ah + al) * (bh + bl)).natAbs ≤ ((ah + al) * (bh + bl)).natAbs := by
  obtain ⟨ha, hb, hg, h1, h2, fe, h3, h4, h5, h6, h7, h8⟩ := A
  rcases hg with h0 | hE
  · have p0 : p = 0 := by rw [h1, h0, rn0]
    have F : Fst g p w := Or.inl p0
    have e0 : e = 0 := by rw [h2, h0, p0]; rfl
    have z : ah * bl = 0 ∧ al * bh = 0 ∧ (ah + al) * (bh + bl) = 0 := by
      rcases Int.mul_eq_zero.1 h0 with h | h
      · have := low_zero ha h; rw [h, this]; simp
      · have := low_zero hb h; rw [h, this]; simp
    obtain ⟨z1, z2, z3⟩ := z
    rw [z1, rn0] at h3
    rw [z2, rn0] at h4
    rw [h3, h4, Int.add_zero, rn0] at h5
    rw [e0, h5, Int.add_zero, rn0] at h6
    have e8 := h8 F
    refine ⟨F, ?_⟩
    have : zh + zl = 0 := by rw [e8, p0, h6]; omega
    rw [this, z3]; decide
  · have r1 := relgn g (ah * bh)
    have r3 := relgn g (ah * bl)
    have r4 := relgn g (al * bh)
    have dx : (2:Int)^g ∣ x := by rw [h3]; exact isF_gdvd (rnI_isF _ _)
    have dy : (2:Int)^g ∣ y := by rw [h4]; exact isF_gdvd (rnI_isF _ _)
    have dc : (2:Int)^g ∣ c := by rw [h5]; exact isF_gdvd (rnI_isF _ _)
    have r5 := rel0n (Int.dvd_add dx dy)
    have r6 := rel0n (Int.dvd_add fe dc)
    rw [← h1] at r1
    rw [← h3] at r3
    rw [← h4] at r4
    rw [← h5] at r5
    rw [← h6] at r6
    have m1 := rel_mul (a := ah) hb
    have m2 : 2^53 * (al * bh).natAbs ≤ (ah * bh).natAbs + (al * bh).natAbs := by have := rel_mul (a := bh) ha; rw [Int.mul_comm bh, Int.mul_comm bh] at this; exact this
    have m3 := rel_mul (a := al) hb
    have ep : (ah + al) * (bh + bl) = ah * bh + ah * bl + (al * bh + al * bl) := by rw [Int.add_mul, Int.mul_add, Int.mul_add]
    have q1 := tri x (ah * bl)
    have q2 := tri y (al * bh)
    have q3 := abs_add3 x y
    have q4 := tri c (x + y)
    have q5 := abs_add3 e c
    have q6 := tri w (e + c)
    have q7 := tri (ah * bh) p
    have r1' := r1
    rw [asc, ← h2] at r1'
    rw [← h2] at q7
    have q8 := abs_four (ah * bh) (ah * bl) (al * bh) (al * bl)
    rw [← ep] at q8
    obtain ⟨g1, g2⟩ := mul_sizes m1 m2 m3 hE r3 r4 q1 q2 q3 r5 q4 r1' q5 r6 q6 q7 q8 (Nat.le_refl _)
    have F : Fst g p w := Or.inr (Or.inl g1)
    refine ⟨F, Nat.le_trans (Nat.mul_le_mul_left _ ?_) g2⟩
    have e8 := h8 F
    have eq : zh + zl - (ah + al) * (bh + bl) = (w - (e + c)) + (c - (x + y)) + (x - ah * bl) + (y - al * bh) - al * bl := by
      rw [e8, ep, h2]
      clear q1 q2 q3 q4 q5 q6 q7 q8 r1 r3 r4 r5 r6 r1' m1 m2 m3 h1 h2 h3 h4 h5 h6 h7 h8 hE ep e8 g1 g2
      omega
    rw [eq]
    exact abs_five _ _ _ _ _
structure MulfIn (g : Nat) (ah al f p e y vh vl w zh zl : Int) : Prop where
  ha : 2^53 * al.natAbs ≤ ah.natAbs + al.natAbs
  hg : ah * f = 0 ∨ 2^120 * (2^52 * 2^g) ≤ (ah * f).natAbs
  h1 : p = rnI g (ah * f)
  h2 : e = ah * f - p
  fe : (2:Int)^g ∣ e
  h3 : y = rnI g (al * f)
  h4 : vh = rnI g (p + y)
  h5 : Fst g p y → vl = p + y - vh
  h6 : w = rnI g (vl + e)
  h7 : zh = rnI g (vh + w)
  h8 : Fst g vh w → zl = vh + w - zh
theorem mulf_dd {g : Nat} {ah al f p e y vh vl w zh zl : Int} (A : MulfIn g ah al f p e y vh vl w zh zl) :
    Fst g p y ∧ Fst g vh w ∧ 2^104 * (zh + zl - (ah + al) * f).natAbs ≤ (ah * f).natAbs ∧ (ah * f).natAbs ≤ 2 * ((ah + al) * f).natAbs := by
  obtain ⟨ha, hg, h1, h2, fe, h3, h4, h5, h6, h7, h8⟩ := A
  have ep : (ah + al) * f = ah * f + al * f := Int.add_mul ..
  have dp : (2:Int)^g ∣ p := by rw [h1]; exact isF_gdvd (rnI_isF _ _)
  have dy : (2:Int)^g ∣ y := by rw [h3]; exact isF_gdvd (rnI_isF _ _)
  have dv : (2:Int)^g ∣ vh := by rw [h4]; exact isF_gdvd (rnI_isF _ _)
  rcases hg with h0 | hE
  · have p0 : p = 0 := by rw [h1, h0, rn0]
    have F1 : Fst g p y := Or.inl p0
    have e0 : e = 0 := by rw [h2, h0, p0]; rfl
    have z : al * f = 0 := by
      rcases Int.mul_eq_zero.1 h0 with h | h
      · have := low_zero ha h; rw [this]; simp
      · rw [h]; simp
    rw [z, rn0] at h3
    rw [p0, h3, Int.add_zero, rn0] at h4
    have e5 := h5 F1
    rw [p0, h3, h4] at e5
    rw [e5, e0] at h6
    rw [show (0 + 0 - 0 + 0 : Int) = 0 from rfl, rn0] at h6
    have F2 : Fst g vh w := Or.inl h4
    have e8 := h8 F2
    have : zh + zl = 0 := by rw [e8, h4, h6]; omega
    rw [this, ep, h0, z]
    exact ⟨F1, F2, by decide, by decide⟩
  · have r1 := relgn g (ah * f)
    have r3 := relgn g (al * f)
    rw [← h1] at r1
    rw [← h3] at r3
    have m1 : 2^53 * (al * f).natAbs ≤ (ah * f).natAbs + (al * f).natAbs := by have := rel_mul (a := f) ha; rw [Int.mul_comm f, Int.mul_comm f] at this; exact this
    have r1' := r1
    rw [asc, ← h2] at r1'
    have q1 := tri y (al * f)
    have q2 := tri (ah * f) p
    have q2' := tri' (ah * f) p
    rw [← h2] at q2 q2'
    have F1 : Fst g p y := Or.inr (Or.inl (mulf_first m1 hE r3 q1 r1' q2))
    have e5 := h5 F1
    have dvl : (2:Int)^g ∣ vl := by rw [e5]; exact Int.dvd_sub (Int.dvd_add dp dy) dv
    have r4 := rel0n (Int.dvd_add dp dy)
    have r6 := rel0n (Int.dvd_add dvl fe)
    rw [← h4] at r4
    rw [← h6] at r6
    have q3 := abs_add3 p y
    have r4' := r4
    rw [asc, ← e5] at r4'
    have q4 := abs_add3 vl e
    have q5 := tri w (vl + e)
    have q6 := tri (p + y) vh
    rw [← e5] at q6
    have q7 := adda p y
    have q8 := adda (ah * f) (al * f)
    rw [← ep] at q8
    obtain ⟨g1, g2, g3⟩ := mulf_sizes m1 hE r3 q1 r1' q2 q2' q3 r4' q4 r6 q5 q6 q7 q8 (Nat.le_refl _)
    have F2 : Fst g vh w := Or.inr (Or.inl g1)
    refine ⟨F1, F2, Nat.le_trans (Nat.mul_le_mul_left _ ?_) g2, g3⟩
    have e8 := h8 F2
    have eq : zh + zl - (ah + al) * f = (y - al * f) + (w - (vl + e)) := by
      rw [e8, ep, h2, e5]
      clear q1 q2 q2' q3 q4 q5 q6 q7 q8 r1 r3 r4 r6 r1' r4' m1 h1 h2 h3 h4 h5 h6 h7 h8 hE ep e8 e5 g1 g2 g3
      omega
    rw [eq]
    exact abs_add3 _ _
structure DivIn (g : Nat) (ah al bh bl q rh rl d1 d2 L t zh zl : Int) : Prop where
  ha : 2^53 * al.natAbs ≤ ah.natAbs + al.natAbs
  hb : 2^53 * bl.natAbs ≤ bh.natAbs + bl.natAbs
  b0 : bh ≠ 0
  hg : ah = 0 ∨ 2^120 * bh.natAbs ≤ (ah * 2^g).natAbs
  hq : 2^53 * (q * bh - ah * 2^g).natAbs ≤ 2 * (ah * 2^g).natAbs + 2^53 * bh.natAbs
  hq0 : ah = 0 → q = 0
  hr : 2^104 * (rh + rl - (bh + bl) * q).natAbs ≤ (bh * q).natAbs
  hrh : rh = rnI g (rh + rl)
  gh : (2:Int)^g ∣ rh
  gl : (2:Int)^g ∣ rl
  h1 : d1 = rnI g (ah * 2^g - rh)
  h2 : d2 = rnI g (al * 2^g - rl)
  h3 : L = rnI g (d1 + d2)
  ht : 2^53 * (t * bh - L).natAbs ≤ 2 * L.natAbs + 2^53 * bh.natAbs
  ht0 : L = 0 → t = 0
  h4 : zh = rnI 0 (q + t)
  h5 : Fst 0 q t → zl = q + t - zh
theorem div_dd {g : Nat} {ah al bh bl q rh rl d1 d2 L t zh zl : Int} (A : DivIn g ah al bh bl q rh rl d1 d2 L t zh zl) :
    Fst 0 q t ∧ 2^100 * ((zh + zl) * (bh + bl) - (ah + al) * 2^g).natAbs ≤ ((ah + al) * 2^g).natAbs := by
  obtain ⟨ha, hb, b0, hg, hq, hq0, hr, hrh, gh, gl, h1, h2, h3, ht, ht0, h4, h5⟩ := A
  have eA : (ah + al) * 2^g = ah * 2^g + al * 2^g := Int.add_mul ..
  rcases hg with h0 | hη
  · have q0 := hq0 h0
    have a0 := low_zero ha h0
    have F : Fst 0 q t := Or.inl q0
    rw [q0, Int.mul_zero, Int.mul_zero] at hr
    have hR : rh + rl = 0 := by
      have : (rh + rl - 0).natAbs = 0 := by
        rw [Int.natAbs_zero] at hr; omega
      omega
    rw [hR, rn0] at hrh
    have l0 : rl = 0 := by omega
    rw [h0, hrh, Int.zero_mul, Int.sub_self, rn0] at h1
    rw [a0, l0, Int.zero_mul, Int.sub_self, rn0] at h2
    rw [h1, h2, Int.add_zero, rn0] at h3
    have t0 := ht0 h3
    have e5 := h5 F
    have : zh + zl = 0 := by rw [e5, q0, t0]; omega
    rw [this, h0, a0]
    exact ⟨F, by simp⟩
  · have D (v : Int) : (2:Int)^g ∣ v * 2^g := Int.dvd_mul_left _ _
    have d1' : (2:Int)^g ∣ d1 := by rw [h1]; exact isF_gdvd (rnI_isF _ _)
    have d2' : (2:Int)^g ∣ d2 := by rw [h2]; exact isF_gdvd (rnI_isF _ _)
    have r1 := rel0n (Int.dvd_sub (D ah) gh)
    have r2 := rel0n (Int.dvd_sub (D al) gl)
    have r3 := rel0n (Int.dvd_add d1' d2')
    have rr := rel0n (Int.dvd_add gh gl)
    rw [← h1] at r1
    rw [← h2] at r2
    rw [← h3] at r3
    rw [← hrh] at rr
    have eq1 : (bh + bl) * q = q * bh + q * bl := by rw [Int.add_mul, Int.mul_comm bh, Int.mul_comm bl]
    have m1 := rel_mul (a := q) hb
    have m2 := rel_mul (a := t) hb
    have m3 : 2^53 * (al * 2^g).natAbs ≤ (ah * 2^g).natAbs + (al * 2^g).natAbs := by have := rel_mul (a := 2^g) ha; rw [Int.mul_comm _ ah, Int.mul_comm _ al] at this; exact this
    rw [eq1, Int.mul_comm bh q] at hr
    rw [rr_low] at rr
    have s1 := tri (q * bh) (ah * 2^g)
    have s2 := tri' (q * bh) (ah * 2^g)
    have s3 := tri2 (rh + rl) (q * bh) (q * bl)
    have s5 := tri4 (ah * 2^g) (q * bh) (q * bl) rh rl
    have s6 := tri d1 (ah * 2^g - rh)
    have s7 := asub (al * 2^g) rl
    have s8 := tri d2 (al * 2^g - rl)
    have s9 := abs_add3 d1 d2
    have s10 := tri L (d1 + d2)
    have s11 := tri (t * bh) L
    have s12 := adda (ah * 2^g) (al * 2^g)
    rw [← eA] at s12
    obtain ⟨g1, g2⟩ := div_sizes hη hq s1 s2 m1 m3 hr s3 rr s5 r1 s6 s7 r2 s8 s9 r3 s10 ht s11 m2 s12 (Nat.le_refl _)
    have ge : t.natAbs ≤ q.natAbs := by
      rw [Int.natAbs_mul, Int.natAbs_mul] at g1
      exact Nat.le_of_mul_le_mul_right g1 (Int.natAbs_pos.2 b0)
    have F : Fst 0 q t := Or.inr (Or.inl ge)
    refine ⟨F, Nat.le_trans (Nat.mul_le_mul_left _ ?_) g2⟩
    have e5 := h5 F
    have ez : zh + zl = q + t := by rw [e5, h4]; clear g1 g2 s1 s2 s3 s5 s6 s7 s8 s9 s10 s11 s12 r1 r2 r3 rr m1 m2 m3 hq hr ht hη ge; omega
    have eqt : (zh + zl) * (bh + bl) = q * bh + q * bl + (t * bh + t * bl) := by rw [ez, Int.add_mul, Int.mul_add, Int.mul_add]
    have eq : (zh + zl) * (bh + bl) - (ah + al) * 2^g = t * bl + (t * bh - L) + (d1 - (ah * 2^g - rh)) + (d2 - (al * 2^g - rl)) + (L - (d1 + d2)) - (rh + rl - (q * bh + q * bl)) := by
      rw [eqt, eA]
      clear g1 g2 s1 s2 s3 s5 s6 s7 s8 s9 s10 s11 s12 r1 r2 r3 rr m1 m2 m3 hq hr ht hη ge ez eqt e5
      omega
    rw [eq]
    exact abs_six _ _ _ _ _ _
end Fl
namespace Fl
open Ieee
theorem stick {X n : Nat} (hn : 0 < n) : ∃ d : Nat, d ≤ n ∧ ((2 * (X / n) + (X % n != 0).toNat) * n + d = 2 * X ∨ (2 * (X / n) + (X % n != 0).toNat) * n = 2 * X + d) := by
  have dm := Nat.div_add_mod X n
  have lt := Nat.mod_lt X hn
  generalize X / n = q at *
  generalize X % n = r at *
  have e : n * q = q * n := Nat.mul_comm ..
  by_cases h : r = 0
  · subst h
    refine ⟨0, Nat.zero_le _, Or.inl ?_⟩
    have : (2 * q + ((0:Nat) != 0).toNat) * n = 2 * (q * n) := by show (2 * q + 0) * n = _; rw [Nat.add_zero, Nat.mul_assoc]
    omega
  · have e1 : (r != 0).toNat = 1 := by have : (r != 0) = true := by simpa using h
                                       rw [this]; rfl
    rw [e1, Nat.add_mul, Nat.one_mul, Nat.mul_assoc]
    by_cases c : n ≤ 2 * r
    · exact ⟨2 * r - n, by omega, Or.inl (by omega)⟩
    · exact ⟨n - 2 * r, by omega, Or.inr (by omega)⟩
theorem sgn_abs (b : Bool) (n : Nat) : (if b = true then -(n : Int) else (n : Int)).natAbs = n := by cases b <;> simp
theorem sgn_xor (a b : Bool) (m n : Nat) : (if (a ^^ b) = true then -(m : Int) else (m : Int)) * (if b = true then -(n : Int) else (n : Int)) = (if a = true then -((m * n : Nat) : Int) else ((m * n : Nat) : Int)) := by
  cases a <;> cases b <;> simp [Int.neg_mul, Int.mul_neg]
theorem sgn_mul (a : Bool) (m n : Nat) : (if a = true then -(m : Int) else (m : Int)) * (n : Int) = (if a = true then -((m * n : Nat) : Int) else ((m * n : Nat) : Int)) := by
  cases a <;> simp [Int.neg_mul]
theorem sgn_dif (a : Bool) (m n d : Nat) (h : m + d = n ∨ m = n + d) : ((if a = true then -(m : Int) else (m : Int)) - (if a = true then -(n : Int) else (n : Int))).natAbs = d := by
  cases a <;> simp <;> omega
theorem quo_sizes {R V Y W G : Int} (h1 : 2^53 * ((R * G - V).natAbs : Int) ≤ V.natAbs + 2^52 * G) (hG : 0 < G) (h2 : 2^54 * (V * Y - W * G).natAbs ≤ (W * G).natAbs) :
    2^53 * (R * Y - W).natAbs ≤ 2 * W.natAbs + 2^53 * Y.natAbs := by
  have a1 : (R * Y - W) * G = (R * G - V) * Y + (V * Y - W * G) := by
    rw [Int.sub_mul, Int.sub_mul]
    have : R * Y * G = R * G * Y := by rw [Int.mul_assoc, Int.mul_assoc, Int.mul_comm Y]
    omega
  have g1 : G.natAbs = G := by omega
  have a2 : (R * Y - W).natAbs * G.natAbs ≤ (R * G - V).natAbs * Y.natAbs + (V * Y - W * G).natAbs := by
    rw [← Int.natAbs_mul, ← Int.natAbs_mul, a1]; exact Int.natAbs_add_le ..
  have a3 : (V * Y).natAbs ≤ (W * G).natAbs + (V * Y - W * G).natAbs := by omega
  have a4 : 2^53 * (R * G - V).natAbs ≤ V.natAbs + 2^52 * G.natAbs := by omega
  have a5 : 2^53 * ((R * G - V).natAbs * Y.natAbs) ≤ (V * Y).natAbs + 2^52 * (Y.natAbs * G.natAbs) := by
    have := Nat.mul_le_mul_right Y.natAbs a4
    rw [Nat.add_mul] at this
    rw [Int.natAbs_mul]
    have e1 : 2^53 * (R * G - V).natAbs * Y.natAbs = 2^53 * ((R * G - V).natAbs * Y.natAbs) := Nat.mul_assoc ..
    have e2 : 2^52 * G.natAbs * Y.natAbs = 2^52 * (Y.natAbs * G.natAbs) := by rw [Nat.mul_assoc, Nat.mul_comm G.natAbs]
    omega
  have a6 : (W * G).natAbs = W.natAbs * G.natAbs := Int.natAbs_mul ..
  have a7 : 2^53 * ((R * Y - W).natAbs * G.natAbs) ≤ 2 * (W.natAbs * G.natAbs) + 2^53 * (Y.natAbs * G.natAbs) := by
    rw [a6] at a3 h2
    generalize (R * Y - W).natAbs * G.natAbs = k1 at *
    generalize (R * G - V).natAbs * Y.natAbs = k2 at *
    generalize (V * Y - W * G).natAbs = k3 at *
    generalize (V * Y).natAbs = k4 at *
    generalize W.natAbs * G.natAbs = k5 at *
    generalize Y.natAbs * G.natAbs = k6 at *
    omega
  have a8 : (2^53 * (R * Y - W).natAbs) * G.natAbs ≤ (2 * W.natAbs + 2^53 * Y.natAbs) * G.natAbs := by
    rw [Nat.add_mul, Nat.mul_assoc, Nat.mul_assoc, Nat.mul_assoc]; exact a7
  exact Nat.le_of_mul_le_mul_right a8 (by omega)
theorem twice {a b : Nat} {v w : Int} (h : 2^54 * (v - w).natAbs ≤ w.natAbs) : v.natAbs ≤ 2 * w.natAbs := by omega
theorem quo_top {v Y W Z : Int} {g : Nat} (h : 2^54 * (v * Y - Z).natAbs ≤ Z.natAbs) (hm : W.natAbs ≤ Y.natAbs * 2^TE) (y0 : 0 < Y.natAbs) (hZ : Z.natAbs = W.natAbs * 2^g) : v.natAbs ≤ top g := by
  have a1 := twice (a := 0) (b := 0) h
  have a2 : Z.natAbs ≤ Y.natAbs * (2^TE * 2^g) := by
    rw [hZ, ← Nat.mul_assoc]
    exact Nat.mul_le_mul_right _ hm
  have a3 : v.natAbs * Y.natAbs ≤ (2 * (2^TE * 2^g)) * Y.natAbs := by
    rw [← Int.natAbs_mul, Nat.mul_assoc, Nat.mul_comm (2^TE * 2^g)]
    exact Nat.le_trans a1 (Nat.mul_le_mul_left _ a2)
  have a4 := Nat.le_of_mul_le_mul_right a3 y0
  unfold top
  rw [Nat.pow_add]
  exact Nat.le_trans a4 (Nat.mul_le_mul_right (2^TE * 2^g) (show 2 ≤ 2^53 - 1 by decide))
theorem big_quo {m n S : Nat} (m0 : m ≠ 0) (hS : S = 54 + n.log2 - m.log2) : 2^53 * n ≤ m * 2^S := by
  have a1 : n < 2^(n.log2 + 1) := Nat.lt_log2_self
  have a2 : 2^m.log2 ≤ m := Nat.log2_self_le m0
  have a3 : 2^53 * n ≤ 2^53 * 2^(n.log2 + 1) := Nat.mul_le_mul_left _ (Nat.le_of_lt a1)
  have a4 : 2^m.log2 * 2^S ≤ m * 2^S := Nat.mul_le_mul_right _ a2
  rw [← Nat.pow_add] at a3 a4
  have a5 : 2^(53 + (n.log2 + 1)) ≤ 2^(m.log2 + S) := Nat.pow_le_pow_right (by decide) (by clear a1 a2 a3 a4; omega)
  exact Nat.le_trans a3 (Nat.le_trans a5 a4)
set_option maxHeartbeats 1000000 in
theorem quo_fin {G x y : Nat} (hG : G = 1074) (hx : fin x) (hy : fin y) (y0 : U y ≠ 0) (hm : (U x * 2^G).natAbs ≤ (U y).natAbs * 2^TE) :
    ∃ r, double.div x y = some r ∧ r < 2^64 ∧ fin r ∧ 2^53 * (U r * U y - U x * 2^G).natAbs ≤ 2 * (U x * 2^G).natAbs + 2^53 * (U y).natAbs ∧ (U x = 0 → U r = 0) := by
  obtain ⟨m, i, hx1, hi, hx2⟩ := read_fin hx
  obtain ⟨n, j, hy1, hj, hy2⟩ := read_fin hy
  have n0 : n ≠ 0 := by
    intro h; rw [h, Nat.zero_mul] at hy2
    have := U_natAbs y; rw [← hy2] at this; omega
  have np := Nat.pos_of_ne_zero n0
  unfold Format.div
  rw [hx1, hy1]
  obtain ⟨S, hS⟩ : ∃ S : Nat, S = 54 + n.log2 - m.log2 := ⟨_, rfl⟩
  obtain ⟨X, hX⟩ : ∃ X, X = m * 2^S := ⟨_, rfl⟩
  obtain ⟨K, hK⟩ : ∃ K, K = 2 * (X / n) + (X % n != 0).toNat := ⟨_, rfl⟩
  have eq : (Datum.number (ng x) m i).quotient (double.fractionBits + 2) (.number (ng y) n j) = some (.number (ng x ^^ ng y) K (i - j - (S : Int) - 1)) := by
    show (if n = 0 then _ else some (Datum.number (ng x ^^ ng y) (2 * ((m <<< (54 + n.log2 - m.log2)) / n) + ((m <<< (54 + n.log2 - m.log2)) % n != 0).toNat) (i - j - ((54 + n.log2 - m.log2 : Nat) : Int) - 1))) = _
    rw [if_neg n0, Nat.shiftLeft_eq, ← hS, ← hX, ← hK]
  rw [eq]
  obtain ⟨ea, hea⟩ : ∃ ea : Int, ea = i - j - (S : Int) - 1 := ⟨_, rfl⟩
  rw [← hea]
  obtain ⟨g, hg⟩ : ∃ g : Nat, g = (-1074 - ea).toNat := ⟨_, rfl⟩
  obtain ⟨k, hk⟩ : ∃ k : Nat, k = (ea + 1074 + g).toNat := ⟨_, rfl⟩
  obtain ⟨I, hI⟩ : ∃ I : Nat, I = (i + 1074).toNat := ⟨_, rfl⟩
  obtain ⟨J, hJ⟩ : ∃ J : Nat, J = (j + 1074).toNat := ⟨_, rfl⟩
  rw [← hI] at hx2
  rw [← hJ] at hy2
  have ex : I + (G + g) = S + 1 + (k + J) := by omega
  obtain ⟨v, hv⟩ : ∃ v : Int, v = (if (ng x ^^ ng y) then -((K * 2^k : Nat) : Int) else ((K * 2^k : Nat) : Int)) := ⟨_, rfl⟩
  have vabs : v.natAbs = K * 2^k := by rw [hv]; exact sgn_abs _ _
  have ux : (U x).natAbs = m * 2^I := by rw [U_natAbs, hx2]
  have uy : (U y).natAbs = n * 2^J := by rw [U_natAbs, hy2]
  have sgn : v * U y = (if ng x = true then -((K * 2^k * (n * 2^J) : Nat) : Int) else ((K * 2^k * (n * 2^J) : Nat) : Int)) := by
    have : U y = if ng y = true then -((n * 2^J : Nat) : Int) else ((n * 2^J : Nat) : Int) := by unfold U; rw [← hy2]
    rw [this, hv]
    exact sgn_xor _ _ _ _
  have sgx : U x * 2^G * 2^g = (if ng x = true then -((m * 2^I * 2^(G + g) : Nat) : Int) else ((m * 2^I * 2^(G + g) : Nat) : Int)) := by
    have : U x = if ng x = true then -((m * 2^I : Nat) : Int) else ((m * 2^I : Nat) : Int) := by unfold U; rw [← hx2]
    have e : (2:Int)^(G + g) = ((2^(G + g) : Nat) : Int) := by rw [Int.natCast_pow]; rfl
    rw [this, Int.mul_assoc, ← Int.pow_add, e]
    exact sgn_mul _ _ _
  obtain ⟨d, hd, hst⟩ := stick (X := X) np
  rw [← hK] at hst
  have key : (m * 2^I * 2^(G + g) : Nat) = 2 * X * 2^(k + J) := by
    rw [hX, Nat.mul_assoc, ← Nat.pow_add, ex, Nat.pow_add, Nat.pow_succ]
    ac_rfl
  have key2 : K * 2^k * (n * 2^J) = K * n * 2^(k + J) := by rw [Nat.pow_add]; ac_rfl
  have dk : (v * U y - U x * 2^G * 2^g).natAbs = d * 2^(k + J) := by
    rw [sgn, sgx, key, key2]
    refine sgn_dif _ _ _ _ ?_
    rcases hst with h | h
    · left; rw [← h, Nat.add_mul]
    · right; rw [h, Nat.add_mul]
  have xabs : (U x * 2^G * 2^g).natAbs = 2 * X * 2^(k + J) := by
    rw [sgx, key]; exact sgn_abs _ _
  have big : m ≠ 0 → 2^53 * n ≤ X := fun m0 => by rw [hX]; exact big_quo m0 hS
  have rel : 2^54 * (v * U y - U x * 2^G * 2^g).natAbs ≤ (U x * 2^G * 2^g).natAbs := by
    rw [dk, xabs, ← Nat.mul_assoc]
    apply Nat.mul_le_mul_right
    by_cases m0 : m = 0
    · have x0 : X = 0 := by rw [hX, m0, Nat.zero_mul]
      have k0 : K = 0 := by rw [hK, x0]; simp
      rw [x0, k0] at hst
      omega
    · have := big m0; omega
  have hmax : v.natAbs ≤ top g := by
    refine quo_top (W := U x * 2^G) rel hm (Int.natAbs_pos.2 y0) ?_
    rw [Int.natAbs_mul, Int.natAbs_pow]; rfl
  obtain ⟨r, h1, h2, h3, h4, h5, h6⟩ := write_fin (g := g) (neg := (ng x ^^ ng y)) (mag := K) (place := ea) (v := v) (by omega) (by rw [← hk, vabs]) (by
    intro h0
    rw [hv]
    have kp : 0 < K * 2^k := by
      rcases Nat.eq_zero_or_pos (K * 2^k) with h | h
      · exact absurd (by omega) h0
      · exact h
    generalize K * 2^k = Z at *
    cases (ng x ^^ ng y)
    · simp
    · simp; omega) hmax
  refine ⟨r, congrArg some h1, h2, h3, ?_, ?_⟩
  · have rg := relg g v
    rw [← h4] at rg
    exact quo_sizes rg (ipw g) rel
  · intro x0
    have m0 : m = 0 := by
      have : m * 2^I = 0 := by rw [← ux, x0]; rfl
      rcases Nat.mul_eq_zero.1 this with h | h
      · exact h
      · have := Nat.two_pow_pos I; omega
    have X0 : X = 0 := by rw [hX, m0, Nat.zero_mul]
    have k0 : K = 0 := by rw [hK, X0]; simp
    have v0 : v = 0 := by have := vabs; rw [k0, Nat.zero_mul] at this; omega
    rw [v0, rn0] at h4
    rcases Int.mul_eq_zero.1 h4 with h | h
    · exact h
    · have := ipw g; omega
end Fl
