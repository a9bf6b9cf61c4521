/- What a quotient of double-doubles answers, in whole numbers of units. Condition: fit numbers, the divisor not nought. What dd's Form, Value, Neg and Cmp answer, by values: plain Lean over the functions. Condition: words. -/
import Derived.Test.YtapikmfckpgjoaaGreatDoorKDdMulsDdB
import Derived.Test.YtapikmfckpgjoaaGreatDoorKDdMulsRp7
import Derived.Test.YtapikmfckpgjoaaGreatDoorKDdMulsEftLaw
import Derived.Test.YtapikmfckpgjoaaGreatDoorKDdMulsFlCmp
import Derived.Laws.BitsAllLaws
import Derived.Test.YtapikmfckpgjoaaGreatDoorKDdMulsPxL1
section
set_option linter.unusedVariables false
namespace Go.Proofs.YtapikmfckpgjoaaGreatDoor.DdB
open Go Go.RowKit Go.Proofs.YtapikmfckpgjoaaGreatDoor.FW Go.Proofs.YtapikmfckpgjoaaGreatDoor.Eft Go.Proofs.YtapikmfckpgjoaaGreatDoor.EftLaw Fl Ieee
theorem fop_quo {g x y r : Nat} (hg : g = 1074) (h : FOp .quo x y r) (hx : fin x) (hy : fin y) (y0 : U y ≠ 0) (hm : (U x * 2^g).natAbs ≤ (U y).natAbs * T0) :
  fin r ∧ 2^53 * (U r * U y - U x * 2^g).natAbs ≤ 2 * (U x * 2^g).natAbs + 2^53 * (U y).natAbs ∧ (U x = 0 → U r = 0) := by
 obtain ⟨v, hv, _, h1, h2, h3⟩ := quo_fin hg hx hy y0 hm
 rw [h.val v hv]; exact ⟨h1, h2, h3⟩
theorem cancel_pow {a n k b : Nat} (h : a * b ≤ 2^k) (hb : 2^n ≤ b) (hnk : n ≤ k) : a ≤ 2^(k - n) := by
 have h1 : a * 2^n ≤ 2^(k - n) * 2^n := by
  rw [← Nat.pow_add, Nat.sub_add_cancel hnk]
  exact Nat.le_trans (Nat.mul_le_mul_left _ hb) h
 exact Nat.le_of_mul_le_mul_right h1 (Nat.two_pow_pos n)
theorem natAbs_pow2 (x : Int) (g : Nat) : (x * 2^g).natAbs = x.natAbs * 2^g := by rw [Int.natAbs_mul, Int.natAbs_pow]; rfl
theorem sz_le_of {q k : Nat} (hk : k ≤ 2069) (h : (U q).natAbs ≤ 2^k) : sz q ≤ 2018 * 2^52 := by
 rw [← mg_le_iff]
 obtain ⟨m, hm⟩ : ∃ m, m = 2017 := ⟨_, rfl⟩
 have h2 := mg_top m
 rw [show (m + 1) * 2^52 = 2018 * 2^52 by omega] at h2
 rw [h2, ← U_natAbs, ← Nat.pow_add]
 exact Nat.le_trans h (Nat.pow_le_pow_right (by decide) (by omega))
theorem q_size {Q X B G : Nat} (h : 2^53 * Q ≤ 2 * (X * G) + 2^53 * B) {K : Nat} (hX : X ≤ K) (hB : B ≤ K) (hG : 2^60 ≤ G) : Q ≤ K * G := by
 have h1 : X * G ≤ K * G := Nat.mul_le_mul_right _ hX
 have h2 : K * 2^60 ≤ K * G := Nat.mul_le_mul_left _ hG
 omega
theorem two_low {a b : Int} (h : b.natAbs ≤ a.natAbs) : (a + b).natAbs ≤ 2 * a.natAbs := by omega
theorem le_two {a b c d : Nat} (h1 : a ≤ b + c) (h2 : b ≤ d) (h3 : c ≤ d) : a ≤ d * 2 := by omega
theorem lo_big {A B C Q D Y K : Nat} (a1 : A ≤ Q + D) (a2 : B ≤ A) (a3 : C * 2^10 ≤ B) (a4 : K * 2^53 ≤ B) (dq : 2^53 * D ≤ 2 * A + 2^53 * Y) (hy : Y ≤ K) : C ≤ Q := by omega
theorem vr_big {A B D M P : Nat} (a1 : A ≤ B + D) (a2 : B ≤ 2 * M) (r1 : 2^104 * D ≤ M) (qy : M ≤ P) : A ≤ 2^3 * P := by omega
theorem rel_szK {a v : Int} {K : Nat} (h : 2^53 * (a - v).natAbs ≤ v.natAbs) (hv : v.natAbs ≤ K) : a.natAbs ≤ 2 * K := by omega
theorem sub_sz {a b : Int} {K T : Nat} (ha : a.natAbs ≤ K) (hb : b.natAbs ≤ 32 * K) (hT : 1024 * K ≤ T) : (a - b).natAbs ≤ 1 * T ∧ (a - b).natAbs ≤ 33 * K := by omega
theorem rel_sz {a v : Int} {K : Nat} (h : 2^53 * (a - v).natAbs ≤ v.natAbs) (hv : v.natAbs ≤ 33 * K) : a.natAbs ≤ 66 * K := by omega
theorem add_sz {a b : Int} {K T : Nat} (ha : a.natAbs ≤ 66 * K) (hb : b.natAbs ≤ 66 * K) (hT : 1024 * K ≤ T) : (a + b).natAbs ≤ 1 * T ∧ (a + b).natAbs ≤ 132 * K := by omega
theorem rel_sz2 {a v : Int} {K : Nat} (h : 2^53 * (a - v).natAbs ≤ v.natAbs) (hv : v.natAbs ≤ 132 * K) : a.natAbs ≤ 1024 * K := by omega
set_option maxHeartbeats 400000 in
theorem div_law {xh xl yh yl zh zl : Nat} (h : DivR xh xl yh yl zh zl) (X : Frm xh xl) (Y : Frm yh yl) (fx : fitS xh) (fy : fitS yh) (y0 : U yh ≠ 0) :
  Frm zh zl ∧ ∃ g, g = 1074 ∧ 2^100 * (V zh zl * V yh yl - V xh xl * 2^g).natAbs ≤ (V xh xl * 2^g).natAbs := by
 obtain ⟨g, hg⟩ : ∃ g : Nat, g = 1074 := ⟨_, rfl⟩
 obtain ⟨q, rh, rl, d1, d2, l, t, h1, h2, h3, h4, h5, h6, h7⟩ := h
 have lx := X.low_le
 have ly := Y.low_le
 obtain ⟨_, n, k, hn, hk, lox, hix⟩ := fit_bounds fx
 obtain ⟨_, n', k', hn', hk', loy, hiy⟩ := fit_bounds fy
 have eTE := TE_eq
 obtain rfl : n' = n := by omega
 obtain rfl : k' = k := by omega
 have loy' : 2^n' ≤ (U yh).natAbs := loy.resolve_left y0
 have y0' : 0 < (U yh).natAbs := by omega
 have gG : 2^60 ≤ 2^g := Nat.pow_le_pow_right (by decide) (by omega)
 have hm1 : (U xh * 2^g).natAbs ≤ (U yh).natAbs * T0 := by
  rw [natAbs_pow2]
  refine Nat.le_trans (Nat.mul_le_mul_right _ hix) (Nat.le_trans ?_ (Nat.mul_le_mul_right _ loy'))
  unfold T0
  rw [← Nat.pow_add, ← Nat.pow_add]; exact Nat.pow_le_pow_right (by decide) (by omega)
 obtain ⟨fq, q1, q2⟩ := fop_quo hg h1 X.fh Y.fh y0 hm1
 have dq := q1
 rw [natAbs_pow2 (U xh)] at dq
 have dqs := q_size dq (K := 2^k') hix hiy gG
 have qy : (U q * U yh).natAbs ≤ 2^(k' + 1 + g) := by
  have a1 := tri (U q * U yh) (U xh * 2^g)
  rw [natAbs_pow2] at a1
  have a2 := Nat.mul_le_mul_right (2^g) hix
  rw [Nat.pow_add, Nat.pow_succ, Nat.mul_right_comm]
  exact le_two a1 a2 dqs
 have qs : (U q).natAbs ≤ 2^(k' + 1 + g - n') := by
  rw [Int.natAbs_mul] at qy
  exact cancel_pow qy loy' (by omega)
 have sq := sz_le_of (by omega) qs
 have lo : U yh * U q = 0 ∨ 2^(g + 172) ≤ (U yh * U q).natAbs := by
  rcases lox with h | h
  ·left; rw [q2 h, Int.mul_zero]
  ·right
   rw [Int.mul_comm (U yh)]
   have a1 := tri' (U q * U yh) (U xh * 2^g)
   rw [natAbs_pow2] at a1
   have a2 := Nat.mul_le_mul_right (2^g) h
   have a3 : 2^172 * 2^g * 2^10 ≤ 2^n' * 2^g := by
    rw [← Nat.pow_add, ← Nat.pow_add, ← Nat.pow_add]; exact Nat.pow_le_pow_right (by decide) (by omega)
   have a4 : 2^k' * 2^53 ≤ 2^n' * 2^g := by
    rw [← Nat.pow_add, ← Nat.pow_add]; exact Nat.pow_le_pow_right (by decide) (by omega)
   rw [Nat.add_comm g, Nat.pow_add]
   exact lo_big a1 a2 a3 a4 dq hiy
 have hi : (U yh * U q).natAbs ≤ 1 * T0 * 2^g := by
  rw [Int.mul_comm (U yh)]
  refine Nat.le_trans qy ?_
  rw [Nat.one_mul]
  unfold T0
  rw [← Nat.pow_add]; exact Nat.pow_le_pow_right (by decide) (by omega)
 obtain ⟨R, r1, r2, br, brl⟩ := mulf_law hg h2 Y (by rcases fy with h | h <;> omega) fq sq lo hi
 have vr : (V rh rl).natAbs ≤ 2^(k' + 4) := by
  have a1 := tri (V rh rl * 2^g) (V yh yl * U q)
  have a2 : (V yh yl * U q).natAbs ≤ 2 * (U yh * U q).natAbs := by
   unfold V
   rw [Int.natAbs_mul, Int.natAbs_mul, ← Nat.mul_assoc]
   exact Nat.mul_le_mul_right _ (two_low ly)
  rw [Int.mul_comm (U yh)] at a2 r1
  rw [natAbs_pow2] at a1
  have a3 : (V rh rl).natAbs * 2^g ≤ 2^(k' + 4) * 2^g := by
   have e : 2^(k' + 4) * 2^g = 8 * 2^(k' + 1 + g) := by
    rw [show k' + 4 = k' + 1 + 3 by omega, Nat.pow_add 2 (k' + 1) 3, Nat.pow_add 2 (k' + 1) g, Nat.mul_comm (2^(k' + 1)) (2^3), Nat.mul_assoc]
   rw [e]; exact vr_big a1 a2 r1 qy
  exact Nat.le_of_mul_le_mul_right a3 (Nat.two_pow_pos g)
 have rhs : (U rh).natAbs ≤ 2^(k' + 5) := by
  have a1 := rel0n (dvd0 (U rh + U rl))
  rw [← R.hx] at a1
  unfold V at vr
  rw [Nat.pow_succ 2 (k' + 4), Nat.mul_comm]
  exact rel_szK a1 vr
 have rls := Nat.le_trans R.low_le rhs
 have kT : 2^(k' + 10) ≤ T0 := two_T _ (by omega)
 have e10 : 2^(k' + 10) = 1024 * 2^k' := by rw [Nat.pow_add, Nat.mul_comm]
 have e5 : 2^(k' + 5) = 32 * 2^k' := by rw [Nat.pow_add, Nat.mul_comm]
 rw [e10] at kT
 rw [e5] at rhs rls
 obtain ⟨z3, y3⟩ := sub_sz hix rhs kT
 obtain ⟨z4, y4⟩ := sub_sz (Nat.le_trans lx hix) rls kT
 have i3 := fop_sub h3 X.fh R.fh (le_top0 (m := 1) z3 (by decide))
 have i4 := fop_sub h4 X.fl R.fl (le_top0 (m := 1) z4 (by decide))
 have n3 := rel0n (dvd0 (U xh - U rh))
 have n4 := rel0n (dvd0 (U xl - U rl))
 rw [← val0 i3] at n3
 rw [← val0 i4] at n4
 obtain ⟨z5, y5⟩ := add_sz (rel_sz n3 y3) (rel_sz n4 y4) kT
 have i5 := fop_add h5 i3.fin i4.fin (le_top0 (m := 1) z5 (by decide))
 have n5 := rel0n (dvd0 (U d1 + U d2))
 rw [← val0 i5] at n5
 have ls : (U l).natAbs ≤ 2^(k' + 10) := by rw [e10]; exact rel_sz2 n5 y5
 have hm2 : (U l * 2^g).natAbs ≤ (U yh).natAbs * T0 := by
  rw [natAbs_pow2]
  refine Nat.le_trans (Nat.mul_le_mul_right _ ls) (Nat.le_trans ?_ (Nat.mul_le_mul_right _ loy'))
  unfold T0
  rw [← Nat.pow_add, ← Nat.pow_add]; exact Nat.pow_le_pow_right (by decide) (by omega)
 obtain ⟨ft, t1, t2⟩ := fop_quo hg h6 i5.fin Y.fh y0 hm2
 have dt := t1
 rw [natAbs_pow2 (U l)] at dt
 have dts := q_size dt (K := 2^(k' + 10)) ls (by omega) gG
 have ts : (U t).natAbs ≤ 2^(k' + 10 + 1 + g - n') := by
  have a1 := tri (U t * U yh) (U l * 2^g)
  rw [natAbs_pow2] at a1
  have a2 := Nat.mul_le_mul_right (2^g) ls
  have a3 : (U t).natAbs * (U yh).natAbs ≤ 2^(k' + 10 + 1 + g) := by
   rw [← Int.natAbs_mul, Nat.pow_add 2 (k' + 10 + 1), Nat.pow_succ 2 (k' + 10), Nat.mul_right_comm]
   exact le_two a1 a2 dts
  exact cancel_pow a3 loy' (by omega)
 have qT : (U q).natAbs ≤ 1 * T0 := by have := two_T (k' + 1 + g - n') (by omega); omega
 have tT : (U t).natAbs ≤ 1 * T0 := by have := two_T (k' + 10 + 1 + g - n') (by omega); omega
 obtain ⟨fzh, fzl, z1, z2, _, _⟩ := quick_law (m := 1) h7 fq ft qT tT (by decide)
 have sR := rnI_scale 0 (U rh + U rl) g
 rw [Nat.zero_add, ← R.hx, Int.add_mul] at sR
 have A : DivIn g (U xh) (U xl) (U yh) (U yl) (U q) (U rh * 2^g) (U rl * 2^g) (U d1 * 2^g) (U d2 * 2^g) (U l * 2^g) (U t) (U zh) (U zl) := by
  refine ⟨X.low, Y.low, y0, ?_, q1, q2, ?_, sR.symm, Int.dvd_mul_left _ _, Int.dvd_mul_left _ _, ?_, ?_, ?_, t1, ?_, z1, fun F => by have := z2 F; omega⟩
  ·rcases lox with h | h
   ·exact Or.inl h
   ·right
    rw [natAbs_pow2]
    refine Nat.le_trans (Nat.mul_le_mul_left _ hiy) (Nat.le_trans ?_ (Nat.mul_le_mul_right _ h))
    rw [← Nat.pow_add, ← Nat.pow_add]; exact Nat.pow_le_pow_right (by decide) (by omega)
  ·have := r1
   unfold V at this
   rw [Int.add_mul] at this
   exact this
  ·rw [scale0 g i3, Int.sub_mul]
  ·rw [scale0 g i4, Int.sub_mul]
  ·rw [scale0 g i5, Int.add_mul]
  ·intro h
   rcases Int.mul_eq_zero.1 h with h | h
   ·exact t2 h
   ·have := ipw g; omega
 obtain ⟨F, r⟩ := div_dd A
 have e2 := z2 F
 obtain ⟨zz, k1, k2, k3⟩ := h7
 exact ⟨⟨k1.lt, k3.lt, fzh, fzl, by rw [e2]; exact z1⟩, g, hg, r⟩
end Go.Proofs.YtapikmfckpgjoaaGreatDoor.DdB
end
section
set_option linter.unusedVariables false
namespace Go.Proofs.YtapikmfckpgjoaaGreatDoor.DdV
open Go.RowKit Go.Proofs.YtapikmfckpgjoaaGreatDoorW.PrintWords Go.Proofs.YtapikmfckpgjoaaGreatDoorW.PrintMore Go.Proofs.YtapikmfckpgjoaaGreatDoor.Num Go.Proofs.YtapikmfckpgjoaaGreatDoor.PLib Go.Proofs.YtapikmfckpgjoaaGreatDoor.Ref Go.Proofs.YtapikmfckpgjoaaGreatDoor.GTh Go.Proofs.YtapikmfckpgjoaaGreatDoor.Given Go.Proofs.YtapikmfckpgjoaaGreatDoor.Rp1 Go.Proofs.YtapikmfckpgjoaaGreatDoor.Rp2 Go.Proofs.YtapikmfckpgjoaaGreatDoor.Rp3 Go.Proofs.YtapikmfckpgjoaaGreatDoor.Rp4 Go.Proofs.YtapikmfckpgjoaaGreatDoor.Rp5 Go.Proofs.YtapikmfckpgjoaaGreatDoor.Rp7 Go.Proofs.YtapikmfckpgjoaaGreatDoor.BinLaw Go.Proofs.YtapikmfckpgjoaaGreatDoor.Fm8 Go.Proofs.YtapikmfckpgjoaaGreatDoor.Rnd Go.Proofs.YtapikmfckpgjoaaGreatDoor.Px Go.Proofs.YtapikmfckpgjoaaGreatDoor.DdB
open Ieee
open Fl (mg sz ng U fin INF U_natAbs rnI rn rung mg_rung Isn add_isn mg_le mg_lt mg_le_iff ord_fin coe_lt coe_eq coe_gt eq_fin read_fin read_inf rnI_natAbs rnI_near rnI_neg rnI_isF rung_zero le_abs ng_sz)
theorem ddv_fmD : Fm 64 fD := .inr ⟨rfl, rfl⟩
theorem ddv_hd : hdF fD = 4503599627370496 := by decide
theorem ddv_sg : fD.sg = 9223372036854775808 := rfl
theorem ddv_INF : INF = 9218868437227405312 := by decide
theorem ddv_mg (s : Nat) : nF fD s = mg s := by
 unfold nF mgF dF mg
 rw [ddv_hd]
 by_cases c : s < 2^52
 ·have e : s / 4503599627370496 = 0 := by omega
  rw [if_pos c, e, if_pos rfl, show s % 4503599627370496 = s by omega]
  simp
 ·rw [if_neg c, if_neg (by omega)]
theorem ddv_szlt (x : Nat) : sz x < fD.sg := Nat.mod_lt _ (by decide)
theorem ddv_pat {x : Nat} (h : x < 18446744073709551616) : pat fD (ng x) (sz x) = x := by
 unfold pat ng sz
 rw [ddv_sg]
 by_cases c : (x / 2^63 % 2 == 1) = true
 ·rw [if_pos c]
  have := beq_iff_eq.1 c
  omega
 ·rw [if_neg c]
  have : ¬ x / 2^63 % 2 = 1 := fun e => c (beq_iff_eq.2 e)
  omega
theorem ddv_sv (x : Nat) : U x = sv (ng x) (nF fD (sz x)) := by unfold U sv; rw [ddv_mg]
theorem ddv_bl {s : Nat} (hs : s < fD.sg) : bl (nF fD s) ≤ 2101 := by
 have := dF_le ddv_fmD hs
 by_cases c : mgF fD s = 0
 ·unfold nF; rw [c, Nat.zero_mul]; decide
 ·unfold nF
  rw [bl_mul _ _ c]
  have : bl (mgF fD s) ≤ 53 := bl_le_of_lt (mg_lt ddv_fmD s)
  omega
theorem ddv_blU (x : Nat) : bl (U x).natAbs ≤ 2101 := by rw [ddv_sv, sv_abs]; exact ddv_bl (ddv_szlt x)
theorem ev_of {α : Type} {o : Option α} {v : α} (h : o = some v) : Ev (fun _ => o) v := by rw [h]; exact Ev.now _
def FormP (x y : Nat) : Prop := fin x ∧ fin y ∧ U x = rnI 0 (U x + U y)
theorem fin_iff (x : Nat) : fin x ↔ sz x < 9218868437227405312 := by unfold fin; rw [ddv_INF]
theorem isn_val {v : Int} {r : Nat} (h : Isn 0 v r) (hr : fin r) : U r = rnI 0 v := by
 have hs : sz r = rung 0 v.natAbs := by have := h.size; have hr' : sz r < INF := hr; omega
 have m := mg_rung 0 v.natAbs
 rw [Nat.pow_zero, Nat.mul_one, ← hs] at m
 by_cases h0 : v = 0
 ·subst h0
  have z : sz r = 0 := by rw [hs]; exact rung_zero 0
  have u := U_natAbs r
  rw [z] at u
  have e : mg 0 = 0 := rfl
  have q := rnI_natAbs 0 0
  rw [show (0 : Int).natAbs = 0 from rfl] at m q
  rw [z, e] at m
  omega
 ·have n := h.sign h0
  have u : U r = if ng r = true then -((mg (sz r) : Nat) : Int) else ((mg (sz r) : Nat) : Int) := rfl
  rw [u, n, m]
  unfold rnI
  by_cases c : v < 0
  ·rw [decide_eq_true c, if_pos rfl, if_pos c]
  ·rw [decide_eq_false c, if_neg (by decide), if_neg c]
theorem neg_w {x : Nat} (hx : x < 18446744073709551616) : Op.negFloat .f64 x < 18446744073709551616 ∧ sz (Op.negFloat .f64 x) = sz x ∧ ng (Op.negFloat .f64 x) = !ng x := by
 have e : Op.negFloat .f64 x = x ^^^ 2^63 := rfl
 rw [e]
 have h1 : (x ^^^ 2^63) % 2^63 = x % 2^63 := by
  rw [Nat.xor_mod_two_pow]
  simp
 have h2 : (x ^^^ 2^63) / 2^63 = (x / 2^63) ^^^ 1 := by
  rw [← Nat.shiftRight_eq_div_pow, Nat.shiftRight_xor_distrib, Nat.shiftRight_eq_div_pow, Nat.shiftRight_eq_div_pow, Nat.div_self (by decide)]
 have h3 : x ^^^ 2^63 < 2^64 := Nat.xor_lt_two_pow (by omega) (by decide)
 refine ⟨h3, h1, ?_⟩
 unfold ng
 rw [h2]
 have q : x / 2^63 = 0 ∨ x / 2^63 = 1 := by omega
 rcases q with q | q <;> rw [q] <;> rfl
theorem neg_U {x : Nat} (hx : x < 18446744073709551616) : U (Op.negFloat .f64 x) = - U x := by
 obtain ⟨_, h2, h3⟩ := neg_w hx
 unfold U
 rw [h2, h3]
 cases ng x <;> simp
theorem neg_form {x y : Nat} (hx : x < 18446744073709551616) (hy : y < 18446744073709551616) : FormP (Op.negFloat .f64 x) (Op.negFloat .f64 y) ↔ FormP x y := by
 have a := neg_w hx
 have b := neg_w hy
 unfold FormP fin
 rw [a.2.1, b.2.1, neg_U hx, neg_U hy, show -U x + -U y = -(U x + U y) by omega, rnI_neg]
 constructor
 ·rintro ⟨h1, h2, h3⟩; exact ⟨h1, h2, by omega⟩
 ·rintro ⟨h1, h2, h3⟩; exact ⟨h1, h2, by omega⟩
theorem neg_V {x y : Nat} (hx : x < 18446744073709551616) (hy : y < 18446744073709551616) : V (Op.negFloat .f64 x) (Op.negFloat .f64 y) = - V x y := by
 unfold V; rw [neg_U hx, neg_U hy]; omega
end Go.Proofs.YtapikmfckpgjoaaGreatDoor.DdV
end
