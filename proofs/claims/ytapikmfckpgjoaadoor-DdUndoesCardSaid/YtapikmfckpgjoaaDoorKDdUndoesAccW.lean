/- What a quotient of double-doubles answers, in whole numbers of units. Condition: fit numbers, the divisor not nought. Contracts of Accept's callees: math.Abs, dd.finite, dd.Form. Conditions: words below 2^64. -/
import Derived.Test.YtapikmfckpgjoaaDoorKDdUndoesDdB
import Derived.Test.YtapikmfckpgjoaaDoorKDdUndoesProdB
import Derived.Test.YtapikmfckpgjoaaDoorKDdUndoesFlCmp
import Derived.Laws.BitsAllLaws
section
set_option linter.unusedVariables false
namespace Go.Proofs.YtapikmfckpgjoaaDoor.DdB
open Go Go.RowKit Go.Proofs.YtapikmfckpgjoaaDoor.FW Go.Proofs.YtapikmfckpgjoaaDoor.Eft Go.Proofs.YtapikmfckpgjoaaDoor.EftLaw Fl Ieee
theorem fop_quo {g x y r : Nat} (hg : g = 1074) (h : FOp .quo x y r) (hx : fin x) (hy : fin y) (y0 : U y ≠ 0) (hm : (U x * 2^g).natAbs ≤ (U y).natAbs * T0) :
  fin r ∧ 2^53 * (U r * U y - U x * 2^g).natAbs ≤ 2 * (U x * 2^g).natAbs + 2^53 * (U y).natAbs ∧ (U x = 0 → U r = 0) := by
 obtain ⟨v, hv, _, h1, h2, h3⟩ := quo_fin hg hx hy y0 hm
 rw [h.val v hv]; exact ⟨h1, h2, h3⟩
theorem cancel_pow {a n k b : Nat} (h : a * b ≤ 2^k) (hb : 2^n ≤ b) (hnk : n ≤ k) : a ≤ 2^(k - n) := by
 have h1 : a * 2^n ≤ 2^(k - n) * 2^n := by
  rw [← Nat.pow_add, Nat.sub_add_cancel hnk]
  exact Nat.le_trans (Nat.mul_le_mul_left _ hb) h
 exact Nat.le_of_mul_le_mul_right h1 (Nat.two_pow_pos n)
theorem natAbs_pow2 (x : Int) (g : Nat) : (x * 2^g).natAbs = x.natAbs * 2^g := by rw [Int.natAbs_mul, Int.natAbs_pow]; rfl
theorem sz_le_of {q k : Nat} (hk : k ≤ 2069) (h : (U q).natAbs ≤ 2^k) : sz q ≤ 2018 * 2^52 := by
 rw [← mg_le_iff]
 obtain ⟨m, hm⟩ : ∃ m, m = 2017 := ⟨_, rfl⟩
 have h2 := mg_top m
 rw [show (m + 1) * 2^52 = 2018 * 2^52 by omega] at h2
 rw [h2, ← U_natAbs, ← Nat.pow_add]
 exact Nat.le_trans h (Nat.pow_le_pow_right (by decide) (by omega))
theorem q_size {Q X B G : Nat} (h : 2^53 * Q ≤ 2 * (X * G) + 2^53 * B) {K : Nat} (hX : X ≤ K) (hB : B ≤ K) (hG : 2^60 ≤ G) : Q ≤ K * G := by
 have h1 : X * G ≤ K * G := Nat.mul_le_mul_right _ hX
 have h2 : K * 2^60 ≤ K * G := Nat.mul_le_mul_left _ hG
 omega
theorem two_low {a b : Int} (h : b.natAbs ≤ a.natAbs) : (a + b).natAbs ≤ 2 * a.natAbs := by omega
theorem le_two {a b c d : Nat} (h1 : a ≤ b + c) (h2 : b ≤ d) (h3 : c ≤ d) : a ≤ d * 2 := by omega
theorem lo_big {A B C Q D Y K : Nat} (a1 : A ≤ Q + D) (a2 : B ≤ A) (a3 : C * 2^10 ≤ B) (a4 : K * 2^53 ≤ B) (dq : 2^53 * D ≤ 2 * A + 2^53 * Y) (hy : Y ≤ K) : C ≤ Q := by omega
theorem vr_big {A B D M P : Nat} (a1 : A ≤ B + D) (a2 : B ≤ 2 * M) (r1 : 2^104 * D ≤ M) (qy : M ≤ P) : A ≤ 2^3 * P := by omega
theorem rel_szK {a v : Int} {K : Nat} (h : 2^53 * (a - v).natAbs ≤ v.natAbs) (hv : v.natAbs ≤ K) : a.natAbs ≤ 2 * K := by omega
theorem sub_sz {a b : Int} {K T : Nat} (ha : a.natAbs ≤ K) (hb : b.natAbs ≤ 32 * K) (hT : 1024 * K ≤ T) : (a - b).natAbs ≤ 1 * T ∧ (a - b).natAbs ≤ 33 * K := by omega
theorem rel_sz {a v : Int} {K : Nat} (h : 2^53 * (a - v).natAbs ≤ v.natAbs) (hv : v.natAbs ≤ 33 * K) : a.natAbs ≤ 66 * K := by omega
theorem add_sz {a b : Int} {K T : Nat} (ha : a.natAbs ≤ 66 * K) (hb : b.natAbs ≤ 66 * K) (hT : 1024 * K ≤ T) : (a + b).natAbs ≤ 1 * T ∧ (a + b).natAbs ≤ 132 * K := by omega
theorem rel_sz2 {a v : Int} {K : Nat} (h : 2^53 * (a - v).natAbs ≤ v.natAbs) (hv : v.natAbs ≤ 132 * K) : a.natAbs ≤ 1024 * K := by omega
set_option maxHeartbeats 400000 in
theorem div_law {xh xl yh yl zh zl : Nat} (h : DivR xh xl yh yl zh zl) (X : Frm xh xl) (Y : Frm yh yl) (fx : fitS xh) (fy : fitS yh) (y0 : U yh ≠ 0) :
  Frm zh zl ∧ ∃ g, g = 1074 ∧ 2^100 * (V zh zl * V yh yl - V xh xl * 2^g).natAbs ≤ (V xh xl * 2^g).natAbs := by
 obtain ⟨g, hg⟩ : ∃ g : Nat, g = 1074 := ⟨_, rfl⟩
 obtain ⟨q, rh, rl, d1, d2, l, t, h1, h2, h3, h4, h5, h6, h7⟩ := h
 have lx := X.low_le
 have ly := Y.low_le
 obtain ⟨_, n, k, hn, hk, lox, hix⟩ := fit_bounds fx
 obtain ⟨_, n', k', hn', hk', loy, hiy⟩ := fit_bounds fy
 have eTE := TE_eq
 obtain rfl : n' = n := by omega
 obtain rfl : k' = k := by omega
 have loy' : 2^n' ≤ (U yh).natAbs := loy.resolve_left y0
 have y0' : 0 < (U yh).natAbs := by omega
 have gG : 2^60 ≤ 2^g := Nat.pow_le_pow_right (by decide) (by omega)
 have hm1 : (U xh * 2^g).natAbs ≤ (U yh).natAbs * T0 := by
  rw [natAbs_pow2]
  refine Nat.le_trans (Nat.mul_le_mul_right _ hix) (Nat.le_trans ?_ (Nat.mul_le_mul_right _ loy'))
  unfold T0
  rw [← Nat.pow_add, ← Nat.pow_add]; exact Nat.pow_le_pow_right (by decide) (by omega)
 obtain ⟨fq, q1, q2⟩ := fop_quo hg h1 X.fh Y.fh y0 hm1
 have dq := q1
 rw [natAbs_pow2 (U xh)] at dq
 have dqs := q_size dq (K := 2^k') hix hiy gG
 have qy : (U q * U yh).natAbs ≤ 2^(k' + 1 + g) := by
  have a1 := tri (U q * U yh) (U xh * 2^g)
  rw [natAbs_pow2] at a1
  have a2 := Nat.mul_le_mul_right (2^g) hix
  rw [Nat.pow_add, Nat.pow_succ, Nat.mul_right_comm]
  exact le_two a1 a2 dqs
 have qs : (U q).natAbs ≤ 2^(k' + 1 + g - n') := by
  rw [Int.natAbs_mul] at qy
  exact cancel_pow qy loy' (by omega)
 have sq := sz_le_of (by omega) qs
 have lo : U yh * U q = 0 ∨ 2^(g + 172) ≤ (U yh * U q).natAbs := by
  rcases lox with h | h
  ·left; rw [q2 h, Int.mul_zero]
  ·right
   rw [Int.mul_comm (U yh)]
   have a1 := tri' (U q * U yh) (U xh * 2^g)
   rw [natAbs_pow2] at a1
   have a2 := Nat.mul_le_mul_right (2^g) h
   have a3 : 2^172 * 2^g * 2^10 ≤ 2^n' * 2^g := by
    rw [← Nat.pow_add, ← Nat.pow_add, ← Nat.pow_add]; exact Nat.pow_le_pow_right (by decide) (by omega)
   have a4 : 2^k' * 2^53 ≤ 2^n' * 2^g := by
    rw [← Nat.pow_add, ← Nat.pow_add]; exact Nat.pow_le_pow_right (by decide) (by omega)
   rw [Nat.add_comm g, Nat.pow_add]
   exact lo_big a1 a2 a3 a4 dq hiy
 have hi : (U yh * U q).natAbs ≤ 1 * T0 * 2^g := by
  rw [Int.mul_comm (U yh)]
  refine Nat.le_trans qy ?_
  rw [Nat.one_mul]
  unfold T0
  rw [← Nat.pow_add]; exact Nat.pow_le_pow_right (by decide) (by omega)
 obtain ⟨R, r1, r2, br, brl⟩ := mulf_law hg h2 Y (by rcases fy with h | h <;> omega) fq sq lo hi
 have vr : (V rh rl).natAbs ≤ 2^(k' + 4) := by
  have a1 := tri (V rh rl * 2^g) (V yh yl * U q)
  have a2 : (V yh yl * U q).natAbs ≤ 2 * (U yh * U q).natAbs := by
   unfold V
   rw [Int.natAbs_mul, Int.natAbs_mul, ← Nat.mul_assoc]
   exact Nat.mul_le_mul_right _ (two_low ly)
  rw [Int.mul_comm (U yh)] at a2 r1
  rw [natAbs_pow2] at a1
  have a3 : (V rh rl).natAbs * 2^g ≤ 2^(k' + 4) * 2^g := by
   have e : 2^(k' + 4) * 2^g = 8 * 2^(k' + 1 + g) := by
    rw [show k' + 4 = k' + 1 + 3 by omega, Nat.pow_add 2 (k' + 1) 3, Nat.pow_add 2 (k' + 1) g, Nat.mul_comm (2^(k' + 1)) (2^3), Nat.mul_assoc]
   rw [e]; exact vr_big a1 a2 r1 qy
  exact Nat.le_of_mul_le_mul_right a3 (Nat.two_pow_pos g)
 have rhs : (U rh).natAbs ≤ 2^(k' + 5) := by
  have a1 := rel0n (dvd0 (U rh + U rl))
  rw [← R.hx] at a1
  unfold V at vr
  rw [Nat.pow_succ 2 (k' + 4), Nat.mul_comm]
  exact rel_szK a1 vr
 have rls := Nat.le_trans R.low_le rhs
 have kT : 2^(k' + 10) ≤ T0 := two_T _ (by omega)
 have e10 : 2^(k' + 10) = 1024 * 2^k' := by rw [Nat.pow_add, Nat.mul_comm]
 have e5 : 2^(k' + 5) = 32 * 2^k' := by rw [Nat.pow_add, Nat.mul_comm]
 rw [e10] at kT
 rw [e5] at rhs rls
 obtain ⟨z3, y3⟩ := sub_sz hix rhs kT
 obtain ⟨z4, y4⟩ := sub_sz (Nat.le_trans lx hix) rls kT
 have i3 := fop_sub h3 X.fh R.fh (le_top0 (m := 1) z3 (by decide))
 have i4 := fop_sub h4 X.fl R.fl (le_top0 (m := 1) z4 (by decide))
 have n3 := rel0n (dvd0 (U xh - U rh))
 have n4 := rel0n (dvd0 (U xl - U rl))
 rw [← val0 i3] at n3
 rw [← val0 i4] at n4
 obtain ⟨z5, y5⟩ := add_sz (rel_sz n3 y3) (rel_sz n4 y4) kT
 have i5 := fop_add h5 i3.fin i4.fin (le_top0 (m := 1) z5 (by decide))
 have n5 := rel0n (dvd0 (U d1 + U d2))
 rw [← val0 i5] at n5
 have ls : (U l).natAbs ≤ 2^(k' + 10) := by rw [e10]; exact rel_sz2 n5 y5
 have hm2 : (U l * 2^g).natAbs ≤ (U yh).natAbs * T0 := by
  rw [natAbs_pow2]
  refine Nat.le_trans (Nat.mul_le_mul_right _ ls) (Nat.le_trans ?_ (Nat.mul_le_mul_right _ loy'))
  unfold T0
  rw [← Nat.pow_add, ← Nat.pow_add]; exact Nat.pow_le_pow_right (by decide) (by omega)
 obtain ⟨ft, t1, t2⟩ := fop_quo hg h6 i5.fin Y.fh y0 hm2
 have dt := t1
 rw [natAbs_pow2 (U l)] at dt
 have dts := q_size dt (K := 2^(k' + 10)) ls (by omega) gG
 have ts : (U t).natAbs ≤ 2^(k' + 10 + 1 + g - n') := by
  have a1 := tri (U t * U yh) (U l * 2^g)
  rw [natAbs_pow2] at a1
  have a2 := Nat.mul_le_mul_right (2^g) ls
  have a3 : (U t).natAbs * (U yh).natAbs ≤ 2^(k' + 10 + 1 + g) := by
   rw [← Int.natAbs_mul, Nat.pow_add 2 (k' + 10 + 1), Nat.pow_succ 2 (k' + 10), Nat.mul_right_comm]
   exact le_two a1 a2 dts
  exact cancel_pow a3 loy' (by omega)
 have qT : (U q).natAbs ≤ 1 * T0 := by have := two_T (k' + 1 + g - n') (by omega); omega
 have tT : (U t).natAbs ≤ 1 * T0 := by have := two_T (k' + 10 + 1 + g - n') (by omega); omega
 obtain ⟨fzh, fzl, z1, z2, _, _⟩ := quick_law (m := 1) h7 fq ft qT tT (by decide)
 have sR := rnI_scale 0 (U rh + U rl) g
 rw [Nat.zero_add, ← R.hx, Int.add_mul] at sR
 have A : DivIn g (U xh) (U xl) (U yh) (U yl) (U q) (U rh * 2^g) (U rl * 2^g) (U d1 * 2^g) (U d2 * 2^g) (U l * 2^g) (U t) (U zh) (U zl) := by
  refine ⟨X.low, Y.low, y0, ?_, q1, q2, ?_, sR.symm, Int.dvd_mul_left _ _, Int.dvd_mul_left _ _, ?_, ?_, ?_, t1, ?_, z1, fun F => by have := z2 F; omega⟩
  ·rcases lox with h | h
   ·exact Or.inl h
   ·right
    rw [natAbs_pow2]
    refine Nat.le_trans (Nat.mul_le_mul_left _ hiy) (Nat.le_trans ?_ (Nat.mul_le_mul_right _ h))
    rw [← Nat.pow_add, ← Nat.pow_add]; exact Nat.pow_le_pow_right (by decide) (by omega)
  ·have := r1
   unfold V at this
   rw [Int.add_mul] at this
   exact this
  ·rw [scale0 g i3, Int.sub_mul]
  ·rw [scale0 g i4, Int.sub_mul]
  ·rw [scale0 g i5, Int.add_mul]
  ·intro h
   rcases Int.mul_eq_zero.1 h with h | h
   ·exact t2 h
   ·have := ipw g; omega
 obtain ⟨F, r⟩ := div_dd A
 have e2 := z2 F
 obtain ⟨zz, k1, k2, k3⟩ := h7
 exact ⟨⟨k1.lt, k3.lt, fzh, fzl, by rw [e2]; exact z1⟩, g, hg, r⟩
end Go.Proofs.YtapikmfckpgjoaaDoor.DdB
end
section
namespace Go.Proofs.YtapikmfckpgjoaaDoor.AccW
open Go.RowKit Go.Proofs.YtapikmfckpgjoaaDoor.FW Go.Proofs.YtapikmfckpgjoaaDoor.Eft Fl
theorem andNot_sz {x : Nat} (hx : x < 18446744073709551616) : bits .andNot .u64 (x : Int) 9223372036854775808 = ((sz x : Nat) : Int) := by
 have h := u64_andNot_nat x 9223372036854775808 hx (by decide)
 have e : 18446744073709551615 - 9223372036854775808 = 2^63 - 1 := by decide
 rw [e, Nat.and_two_pow_sub_one_eq_mod] at h
 exact h
end Go.Proofs.YtapikmfckpgjoaaDoor.AccW
end
