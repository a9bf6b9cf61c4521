/- What the law's reckons answers: sums, products and quotients of double-doubles lie within the document's errors. Plain Lean over the functions. Condition: words. -/
import Derived.Test.YtapikmfckpgjoaaGreatDoorKDdMulsPRefx0
import Derived.Test.YtapikmfckpgjoaaGreatDoorKDdMulsDz
import Derived.Test.YtapikmfckpgjoaaGreatDoorKDdMulsDdByDyadicsL
import Derived.Test.YtapikmfckpgjoaaGreatDoorKDdMulsSq
import Derived.Test.YtapikmfckpgjoaaGreatDoorKDdMulsPxP0
import Derived.Test.YtapikmfckpgjoaaGreatDoorKDdMulsPxL2
import Derived.Test.YtapikmfckpgjoaaGreatDoorKDdMulsPxZ0
import Derived.Test.YtapikmfckpgjoaaGreatDoorKDdMulsPRefx3
set_option linter.unusedVariables false
namespace Go.Proofs.YtapikmfckpgjoaaGreatDoor.DdRe
open Go.RowKit Go.Proofs.YtapikmfckpgjoaaGreatDoorW.PrintWords Go.Proofs.YtapikmfckpgjoaaGreatDoorW.PrintMore Go.Proofs.YtapikmfckpgjoaaGreatDoor.Num Go.Proofs.YtapikmfckpgjoaaGreatDoor.PLib Go.Proofs.YtapikmfckpgjoaaGreatDoor.PRef Go.Proofs.YtapikmfckpgjoaaGreatDoor.Ref Go.Proofs.YtapikmfckpgjoaaGreatDoor.GTh Go.Proofs.YtapikmfckpgjoaaGreatDoor.Given Go.Proofs.YtapikmfckpgjoaaGreatDoor.BinLaw Go.Proofs.YtapikmfckpgjoaaGreatDoor.Rp5 Go.Proofs.YtapikmfckpgjoaaGreatDoor.Rp7 Go.Proofs.YtapikmfckpgjoaaGreatDoor.Sf1 Go.Proofs.YtapikmfckpgjoaaGreatDoor.DdB Go.Proofs.YtapikmfckpgjoaaGreatDoor.DdV Go.Proofs.YtapikmfckpgjoaaGreatDoor.DdE Go.Proofs.YtapikmfckpgjoaaGreatDoor.DdWi Go.Proofs.YtapikmfckpgjoaaGreatDoor.Dz
theorem re_abs {z : Int} (h : Zs z) : Ev (fun k => gnomonref04_Abs.f k (zn z) (zl z)) (zn ((z.natAbs : Nat) : Int), zl ((z.natAbs : Nat) : Int)) := by
 unfold gnomonref04_Abs.f
 refine pair_some ?_
 exact zmk_ev false z.natAbs (by unfold Zs at h; omega) _ (by omega) (fun _ => by rw [decide_eq_false]; omega)
theorem re_bits (a b : Nat) : gnomonlaw20_bits.f a b = some ((a : Int), (b : Int)) := rfl
theorem re_le {a : Int} : Ref.sgn a ≤ 0 ↔ a ≤ 0 := by unfold Ref.sgn; split <;> (try split) <;> omega
theorem re_zero {a : Int} : Ref.sgn a = 0 ↔ a = 0 := by unfold Ref.sgn; split <;> (try split) <;> omega
theorem Zs_sub {a b : Int} (ha : bl a.natAbs ≤ 400000) (hb : bl b.natAbs ≤ 400000) : Zs (a - b) := by
 have t : (a - b).natAbs ≤ a.natAbs + b.natAbs := by omega
 exact Zs_bl (Nat.le_trans (bl_mono t) (Nat.le_trans (bl_add (k := 400000) ha hb) (by decide)))
theorem form_ev {a b : Nat} (F : Frm a b) : Ev (fun k => gnomonref20_DocForm.f k (a : Int) (b : Int)) true := ((docform F.lh F.ll).resolve_right fun h => h.1 (Frm_FormP F)).2
theorem just_ev {a b : Nat} (F : Frm a b) {v : Int} (h : V a b = v) : Ev (fun k => gnomonref20_Just.f k (a : Int) (b : Int) (zn v) (zl v)) true := by
 subst h
 have z := Zs_V a b
 have c := zcmp_ev (V a b) (V a b) z z (Zs_sub (Nat.le_trans (bl_V a b) (by decide)) (Nat.le_trans (bl_V a b) (by decide)))
 rw [Int.sub_self] at c
 unfold gnomonref20_Just.f
 exact Ev.bind (form_ev F) (Ev.congr (fun k => if_pos rfl) (Ev.bind (sum_ev F.lh F.ll) (Ev.bind c (Ev.now _))))
theorem near_ev {a b : Nat} (F : Frm a b) {num den : Int} (hn : bl num.natAbs ≤ 20000) (hd : bl den.natAbs ≤ 3000) (e : Nat) (he : e ≤ 110) (hb : 2^e * (V a b * den - num).natAbs ≤ num.natAbs) :
  Ev (fun k => gnomonref20_Near.f k (a : Int) (b : Int) (zn num) (zl num) (zn den) (zl den) (e : Int)) true := by
 have bv := bl_V a b
 have bm : bl (V a b * den).natAbs ≤ 5200 := by rw [Int.natAbs_mul]; exact Nat.le_trans (bl_mul2 bv hd) (by decide)
 have m := zmul_ev (V a b) den (Zs_V a b) (Zs_bl (by omega)) (Zs_bl (by omega))
 have bs : bl (V a b * den - num).natAbs ≤ 20001 := by
  have t : (V a b * den - num).natAbs ≤ (V a b * den).natAbs + num.natAbs := by omega
  exact Nat.le_trans (bl_mono t) (bl_add (k := 20000) (by omega) hn)
 have s := zsub_ev (V a b * den) num (Zs_bl (by omega)) (Zs_bl (by omega)) (Zs_bl (by omega))
 generalize V a b * den - num = off at *
 have b2 : bl (((off.natAbs : Nat) : Int) * 2^e).natAbs ≤ 20111 := by
  rw [natAbs_shl, Int.natAbs_natCast]
  have := bl_scale (A := off.natAbs) (n := e)
  omega
 have h1 := re_abs (z := off) (Zs_bl (by omega))
 have h2 := zshl_ev ((off.natAbs : Nat) : Int) e (Zs_bl (by rw [Int.natAbs_natCast]; omega)) (by omega) (Zs_bl (by omega))
 have h3 := re_abs (z := num) (Zs_bl (by omega))
 have h4 := zcmp_ev (((off.natAbs : Nat) : Int) * 2^e) ((num.natAbs : Nat) : Int) (Zs_bl (by omega)) (Zs_bl (by rw [Int.natAbs_natCast]; omega)) (Zs_sub (by omega) (by rw [Int.natAbs_natCast]; omega))
 have le : Ref.sgn (((off.natAbs : Nat) : Int) * 2^e - ((num.natAbs : Nat) : Int)) ≤ 0 := by
  rw [re_le]
  have pe : (2:Int)^e = ((2^e : Nat) : Int) := by rw [Int.natCast_pow]; rfl
  have q : ((off.natAbs : Nat) : Int) * 2^e ≤ ((num.natAbs : Nat) : Int) := by
   rw [pe, Int.mul_comm]
   exact_mod_cast hb
  omega
 unfold gnomonref20_Near.f
 refine Ev.bind (form_ev F) (Ev.congr (fun k => if_pos rfl) (Ev.bind (sum_ev F.lh F.ll) (Ev.bind m (Ev.bind s (Ev.bind h1 (Ev.bind h2 (Ev.bind h3 (Ev.bind h4 ?_))))))))
 rw [decide_eq_true le]
 exact Ev.now _
theorem one_ev {g : Nat} (hg : g = 1074) : Ev (fun k => gnomonref20_One.f k) (zn ((2:Int)^g), zl ((2:Int)^g)) := by
 have p := pow2_ev g (by omega)
 have e : (g : Int) = 1074 := by omega
 rw [e] at p
 unfold gnomonref20_One.f
 refine Ev.bind p (pair_some ?_)
 refine zmk_ev false (2^g) ?_ _ (by rw [Int.natAbs_pow]; rfl) (fun _ => ?_)
 ·have := dg_len_bits (n := 2^g) (k := g + 1) (Nat.pow_lt_pow_right (by decide) (by omega)) (by omega)
  omega
 ·rw [decide_eq_false]
  have : (0:Int) < 2^g := Int.pow_pos (by decide)
  omega
theorem one_bl {g : Nat} (hg : g = 1074) : bl ((2:Int)^g).natAbs ≤ 1075 := by
 rw [Int.natAbs_pow]
 show bl (2^g) ≤ 1075
 have := bl_scale (A := 1) (n := g)
 rw [Nat.one_mul] at this
 have o : bl 1 = 1 := by decide
 omega
theorem ofone_ev : Ev (fun k => gnomonref04_Of.f k 1) (zn 1, zl 1) := zof_ev 1 (by decide) (by decide)
theorem near1 {a b : Nat} (F : Frm a b) {num : Int} (hn : bl num.natAbs ≤ 20000) (e : Nat) (he : e ≤ 110) (hb : 2^e * (V a b - num).natAbs ≤ num.natAbs) :
  Ev (fun k => gnomonref20_Near.f k (a : Int) (b : Int) (zn num) (zl num) (zn 1) (zl 1) (e : Int)) true := near_ev F hn (by decide) e he (by rw [Int.mul_one]; exact hb)
theorem U_of_V {x y : Nat} (F : Frm x y) (h : V x y ≠ 0) : Fl.U x ≠ 0 := by
 have e : Fl.U x = Fl.rnI 0 (V x y) := F.hx
 rw [e]; exact (rn_ne h).1
theorem reckons_ev (kd : Int) (a b c d : Nat) (h6 : 6 ≤ kd) (h12 : kd ≤ 12) (ha : a < 18446744073709551616) (hb : b < 18446744073709551616) (hc : c < 18446744073709551616) (hd : d < 18446744073709551616) :
  Ev (fun k => gnomonlaw20_reckons.f k kd (a : Int) (b : Int) (c : Int) (d : Int)) true := by
 unfold gnomonlaw20_reckons.f
 by_cases k6 : kd = 6
 ·refine Ev.congr (fun k => if_pos k6) ?_
  rcases fitFloat a with ⟨fa, e1⟩ | ⟨fa, e1⟩
  rotate_left
  ·exact Ev.bind (ev_of e1) (Ev.congr (fun k => if_neg (by decide)) (Ev.now _))
  refine Ev.bind (ev_of e1) (Ev.congr (fun k => if_pos rfl) ?_)
  rcases fitFloat c with ⟨fc, e2⟩ | ⟨fc, e2⟩
  rotate_left
  ·exact Ev.bind (ev_of e2) (Ev.congr (fun k => if_neg (by decide)) (Ev.now _))
  refine Ev.bind (ev_of e2) (Ev.congr (fun k => if_pos rfl) (Ev.bind (ev_of (wi_float a)) (Ev.bind (ev_of (wi_float c)) ?_)))
  obtain ⟨s, t, g3, F3, r3⟩ := sum_any (fit_bounds fa).1 (fit_bounds fc).1 (fit_T fa) (fit_T fc)
  have z := zadd_ev (Fl.U a) (Fl.U c) (Zs_U a) (Zs_U c) (by rw [← r3]; exact Zs_V s t)
  exact Ev.bind (ev_of g3) (Ev.bind (ev_of (re_bits s t)) (Ev.bind (number_ev ha) (Ev.bind (number_ev hc) (Ev.bind z (Ev.bind (just_ev F3 r3) (Ev.now _))))))
 refine Ev.congr (fun k => if_neg k6) ?_
 rcases fit ha hb with ⟨⟨X, fx⟩, e1⟩ | e1
 rotate_left
 ·exact Ev.bind e1 (Ev.congr (fun k => if_neg (by decide)) (Ev.now _))
 refine Ev.bind e1 (Ev.congr (fun k => if_pos rfl) ?_)
 obtain ⟨g, hg⟩ : ∃ g : Nat, g = 1074 := ⟨_, rfl⟩
 have s1 := sum_ev ha hb
 have o1 := one_ev hg
 have ob := one_bl hg
 have b1 := bl_V a b
 by_cases k11 : kd = 11
 ·refine Ev.congr (fun k => if_pos k11) ?_
  obtain ⟨z7, z8, g4, F4, g', hg', r4⟩ := sqr_any X fx
  obtain rfl : g' = g := by omega
  have c6 : bl (V a b * V a b).natAbs ≤ 4204 := by rw [Int.natAbs_mul]; exact bl_mul2 b1 b1
  have m := zmul_ev (V a b) (V a b) (Zs_V a b) (Zs_V a b) (Zs_bl (by omega))
  have nr := near_ev F4 (num := V a b * V a b) (den := (2:Int)^g') (by omega) (by omega) 102 (by decide) r4
  exact Ev.bind s1 (Ev.bind o1 (Ev.bind (ev_of (wi_pair a b)) (Ev.bind (ev_of (wi_pair c d)) (Ev.bind (ev_of g4) (Ev.bind (ev_of (re_bits _ _)) (Ev.bind m (Ev.bind nr (Ev.now _))))))))
 refine Ev.congr (fun k => if_neg k11) ?_
 rcases fitFloat c with ⟨fc, e2⟩ | ⟨fc, e2⟩
 rotate_left
 ·exact Ev.bind (ev_of e2) (Ev.congr (fun k => if_neg (by decide)) (Ev.now _))
 refine Ev.bind (ev_of e2) (Ev.congr (fun k => if_pos rfl) ?_)
 by_cases k10 : kd = 10
 ·refine Ev.congr (fun k => if_pos k10) ?_
  obtain ⟨z1, z2, g1, F1, g', hg', r1⟩ := mulf_fit X fx fc
  obtain rfl : g' = g := by omega
  have bu : bl (Fl.U c).natAbs ≤ 2102 := Nat.le_trans (ddv_blU c) (by decide)
  have c6 : bl (V a b * Fl.U c).natAbs ≤ 4204 := by rw [Int.natAbs_mul]; exact bl_mul2 b1 bu
  have m := zmul_ev (V a b) (Fl.U c) (Zs_V a b) (Zs_U c) (Zs_bl (by omega))
  have nr := near_ev F1 (num := V a b * Fl.U c) (den := (2:Int)^g') (by omega) (by omega) 102 (by decide) (by
   generalize (V z1 z2 * 2^g' - V a b * Fl.U c).natAbs = p at *
   generalize (V a b * Fl.U c).natAbs = q at *
   clear c6 b1 bu ob m
   omega)
  exact Ev.bind s1 (Ev.bind o1 (Ev.bind (number_ev hc) (Ev.bind (ev_of (wi_pair a b)) (Ev.bind (ev_of (wi_pair c d)) (Ev.bind (ev_of g1) (Ev.bind (ev_of (re_bits _ _)) (Ev.bind m (Ev.bind nr (Ev.now _)))))))))
 refine Ev.congr (fun k => if_neg k10) ?_
 rcases fit hc hd with ⟨⟨Y, fy⟩, e3⟩ | e3
 rotate_left
 ·exact Ev.bind e3 (Ev.congr (fun k => if_neg (by decide)) (Ev.now _))
 have s2 := sum_ev hc hd
 have b2 := bl_V c d
 refine Ev.bind e3 (Ev.congr (fun k => if_pos rfl) (Ev.bind s1 (Ev.bind o1 (Ev.bind s2 (Ev.bind (ev_of (wi_pair a b)) (Ev.bind (ev_of (wi_pair c d)) ?_))))))
 by_cases k7 : kd = 7
 ·refine Ev.congr (fun k => if_pos k7) ?_
  obtain ⟨z1, z2, g1, F1, r1⟩ := add_any X Y fx fy
  have c3 : bl (V a b + V c d).natAbs ≤ 2103 := Nat.le_trans (bl_mono (Int.natAbs_add_le _ _)) (bl_add b1 b2)
  have m := zadd_ev (V a b) (V c d) (Zs_V a b) (Zs_V c d) (Zs_bl (by omega))
  have nr := near1 F1 (by omega) 103 (by decide) r1
  exact Ev.bind (ev_of g1) (Ev.bind (ev_of (re_bits _ _)) (Ev.bind m (Ev.bind ofone_ev (Ev.bind nr (Ev.now _)))))
 refine Ev.congr (fun k => if_neg k7) ?_
 by_cases k8 : kd = 8
 ·refine Ev.congr (fun k => if_pos k8) ?_
  obtain ⟨z1, z2, g1, F1, r1⟩ := sub_any X Y fx fy
  have c3 : bl (V a b - V c d).natAbs ≤ 2103 := by
   have t : (V a b - V c d).natAbs ≤ (V a b).natAbs + (V c d).natAbs := by omega
   exact Nat.le_trans (bl_mono t) (bl_add b1 b2)
  have m := zsub_ev (V a b) (V c d) (Zs_V a b) (Zs_V c d) (Zs_bl (by omega))
  have nr := near1 F1 (by omega) 103 (by decide) r1
  exact Ev.bind (ev_of g1) (Ev.bind (ev_of (re_bits _ _)) (Ev.bind m (Ev.bind ofone_ev (Ev.bind nr (Ev.now _)))))
 refine Ev.congr (fun k => if_neg k8) ?_
 by_cases k9 : kd = 9
 ·refine Ev.congr (fun k => if_pos k9) ?_
  obtain ⟨z1, z2, g1, F1, g', hg', r1⟩ := mul_any X Y fx fy
  obtain rfl : g' = g := by omega
  have c5 : bl (V a b * V c d).natAbs ≤ 4204 := by rw [Int.natAbs_mul]; exact bl_mul2 b1 b2
  have m := zmul_ev (V a b) (V c d) (Zs_V a b) (Zs_V c d) (Zs_bl (by omega))
  have nr := near_ev F1 (num := V a b * V c d) (den := (2:Int)^g') (by omega) (by omega) 102 (by decide) r1
  exact Ev.bind (ev_of g1) (Ev.bind (ev_of (re_bits _ _)) (Ev.bind m (Ev.bind nr (Ev.now _))))
 refine Ev.congr (fun k => if_neg k9) (Ev.bind (ev_of (zsign (V c d))) ?_)
 by_cases v0 : V c d = 0
 ·exact Ev.congr (fun k => if_pos (re_zero.2 v0)) (Ev.now _)
 ·refine Ev.congr (fun k => if_neg (fun h => v0 (re_zero.1 h))) ?_
  obtain ⟨z1, z2, g1, F1, g', hg', r1⟩ := div_any X Y fx fy (U_of_V Y v0)
  obtain rfl : g' = g := by omega
  have c5 : bl (V a b * (2:Int)^g').natAbs ≤ 3200 := by rw [Int.natAbs_mul]; exact Nat.le_trans (bl_mul2 b1 ob) (by decide)
  have m := zmul_ev (V a b) ((2:Int)^g') (Zs_V a b) (Zs_bl (by omega)) (Zs_bl (by omega))
  have nr := near_ev F1 (num := V a b * (2:Int)^g') (den := V c d) (by omega) (by omega) 100 (by decide) r1
  exact Ev.bind (ev_of g1) (Ev.bind (ev_of (re_bits _ _)) (Ev.bind m (Ev.bind nr (Ev.now _))))
theorem plays_ev (kd : Int) (a b c d : Nat) (h6 : 6 ≤ kd) (h12 : kd ≤ 12) (ha : a < 18446744073709551616) (hb : b < 18446744073709551616) (hc : c < 18446744073709551616) (hd : d < 18446744073709551616) :
  Ev (fun k => gnomonlaw20_plays.f k kd (a : Int) (b : Int) (c : Int) (d : Int)) true := by
 have r := reckons_ev kd a b c d h6 h12 ha hb hc hd
 unfold gnomonlaw20_plays.f
 exact Ev.congr (fun k => if_pos (by omega)) (Ev.congr (fun k => if_neg (by omega)) (Ev.congr (fun k => if_neg (by omega)) (Ev.congr (fun k => if_neg (by omega)) (Ev.bind r (Ev.now _)))))
end Go.Proofs.YtapikmfckpgjoaaGreatDoor.DdRe
