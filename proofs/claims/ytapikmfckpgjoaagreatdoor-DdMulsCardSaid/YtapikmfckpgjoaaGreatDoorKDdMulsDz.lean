/- What the reference of layer 20 answers: numbers, sums, form, fitness: plain Lean over the functions. Condition: words. -/
import Derived.Test.YtapikmfckpgjoaaGreatDoorKDdMulsDdE
import Derived.Test.YtapikmfckpgjoaaGreatDoorKDdMulsSz
import Derived.Test.YtapikmfckpgjoaaGreatDoorKDdMulsPxZ0
import Derived.Test.YtapikmfckpgjoaaGreatDoorKDdMulsRp5
set_option linter.unusedVariables false
namespace Go.Proofs.YtapikmfckpgjoaaGreatDoor.Dz
open Go.RowKit Go.Proofs.YtapikmfckpgjoaaGreatDoorW.PrintWords Go.Proofs.YtapikmfckpgjoaaGreatDoorW.PrintMore Go.Proofs.YtapikmfckpgjoaaGreatDoor.Num Go.Proofs.YtapikmfckpgjoaaGreatDoor.PLib Go.Proofs.YtapikmfckpgjoaaGreatDoor.PRef Go.Proofs.YtapikmfckpgjoaaGreatDoor.Ref Go.Proofs.YtapikmfckpgjoaaGreatDoor.GTh Go.Proofs.YtapikmfckpgjoaaGreatDoor.Given Go.Proofs.YtapikmfckpgjoaaGreatDoor.Rp1 Go.Proofs.YtapikmfckpgjoaaGreatDoor.Rp3 Go.Proofs.YtapikmfckpgjoaaGreatDoor.Rp5 Go.Proofs.YtapikmfckpgjoaaGreatDoor.Rp7 Go.Proofs.YtapikmfckpgjoaaGreatDoor.BinLaw Go.Proofs.YtapikmfckpgjoaaGreatDoor.Fm8 Go.Proofs.YtapikmfckpgjoaaGreatDoor.Rnd Go.Proofs.YtapikmfckpgjoaaGreatDoor.Sq Go.Proofs.YtapikmfckpgjoaaGreatDoor.Sz Go.Proofs.YtapikmfckpgjoaaGreatDoor.DdB Go.Proofs.YtapikmfckpgjoaaGreatDoor.DdV Go.Proofs.YtapikmfckpgjoaaGreatDoor.DdE
open Fl (mg sz ng U fin INF U_natAbs rnI rn rung kx rhe mg_rung Isn mg_inj mg_zero rnI_natAbs)
theorem Zs_bl {z : Int} (h : bl z.natAbs ≤ 1000000) : Zs z := Zs_of (k := bl z.natAbs) (bl_lt _) (by omega)
theorem Zs_U (x : Nat) : Zs (U x) := Zs_bl (Nat.le_trans (ddv_blU x) (by decide))
theorem bl_V (x y : Nat) : bl (V x y).natAbs ≤ 2102 := by
 unfold V
 exact Nat.le_trans (bl_mono (Int.natAbs_add_le _ _)) (bl_add (ddv_blU x) (ddv_blU y))
theorem Zs_V (x y : Nat) : Zs (V x y) := Zs_bl (Nat.le_trans (bl_V x y) (by decide))
theorem dz_of : gnomonref07_Of.f 64 = some (((fD.sg : Nat) : Int), ((fD.man : Nat) : Int), fD.low, 971, ((fD.inf : Nat) : Int), ((fD.qt : Nat) : Int), true) := rfl
theorem dz_cut {b : Nat} (P E G I Q : Int) : gnomonref07_Cut.f ((fD.sg : Nat) : Int) P E G I Q (b : Int) = some (decide (fD.sg ≤ b), ((b % fD.sg : Nat) : Int)) := by
 have hz := ddv_fmD.sz
 have e : Int.tmod (b : Int) ((fD.sg : Nat) : Int) = ((b % fD.sg : Nat) : Int) := (Int.ofNat_tmod _ _).symm
 have d : decide ((b : Int) ≥ ((fD.sg : Nat) : Int)) = decide (fD.sg ≤ b) := decide_eq_decide.2 ⟨fun q => by omega, fun q => by omega⟩
 unfold gnomonref07_Cut.f
 first
 | (rw [if_neg (by omega), e, d])
 | (rw [e, d])
theorem ng_sg {b : Nat} (hb : b < 18446744073709551616) : decide (fD.sg ≤ b) = ng b := by
 unfold ng
 rw [ddv_sg]
 by_cases c : 9223372036854775808 ≤ b
 ·rw [decide_eq_true c]
  have : b / 2^63 % 2 = 1 := by omega
  rw [this]; rfl
 ·rw [decide_eq_false c]
  have : b / 2^63 % 2 = 0 := by omega
  rw [this]; rfl
theorem number_ev {b : Nat} (hb : b < 18446744073709551616) : Ev (fun k => gnomonref20_Number.f k (b : Int)) (zn (U b), zl (U b)) := by
 have hz := ddv_fmD.sz
 have hs : b % fD.sg < fD.sg := Nat.mod_lt _ (by omega)
 have es : b % fD.sg = sz b := rfl
 rw [es] at hs
 have hm := sz_mg ddv_fmD (sz b)
 have hd := sz_dF ddv_fmD hs
 have hx := xp_d fD (sz b)
 have low : fD.low = -1074 := rfl
 have sh : wrap64 (xpF fD (sz b) - fD.low) = ((dF fD (sz b) : Nat) : Int) := by rw [hx, w64 (by omega) (by omega)]; omega
 have l1 : (dg (mgF fD (sz b))).length < 274877906944 := dg_len_bits (k := 64) (by omega) (by decide)
 have l2 : bl (nF fD (sz b)) ≤ 2101 := ddv_bl hs
 have l3 : (dg (nF fD (sz b))).length < 1099511627776 := by
  have := dg_len_bits (n := nF fD (sz b)) (k := bl (nF fD (sz b))) (bl_lt _) (by omega)
  omega
 unfold gnomonref20_Number.f
 refine Ev.bind (sz_ev dz_of) (pair_some ?_)
 unfold gnomonref07_Whole.f
 refine Ev.bind (sz_ev (dz_cut _ _ _ _ _)) (Ev.bind (sz_ev (sz_parts ddv_fmD 971 ((fD.qt : Nat) : Int) (s := b % fD.sg) (Nat.mod_lt _ (by omega)))) ?_)
 rw [es]
 have w := word_ev ((mgF fD (sz b) : Nat) : Int) (by omega) (by omega)
 rw [Int.toNat_natCast] at w
 refine Ev.bind w ?_
 dsimp only
 rw [sh]
 refine Ev.bind (shl_ev _ _ l1 (by omega)) (pair_some ?_)
 refine zmk_ev _ (nF fD (sz b)) l3 (U b) (by rw [ddv_sv, sv_abs]) (fun n0 => ?_)
 rw [ddv_sv, ng_sg hb]
 generalize nF fD (sz b) = n at *
 by_cases c : ng b = true
 ·rw [c, decide_eq_true]; show -(n : Int) < 0; omega
 ·rw [Bool.not_eq_true] at c
  rw [c, decide_eq_false]; show ¬ (n : Int) < 0; omega
theorem sum_ev {a b : Nat} (ha : a < 18446744073709551616) (hb : b < 18446744073709551616) : Ev (fun k => gnomonref20_Sum.f k (a : Int) (b : Int)) (zn (V a b), zl (V a b)) := by
 unfold gnomonref20_Sum.f
 exact Ev.bind (number_ev ha) (Ev.bind (number_ev hb) (pair_some (zadd_ev _ _ (Zs_U a) (Zs_U b) (Zs_V a b))))
theorem dz_rung {V : Nat} (hV : V ≠ 0) : rsz fD 0 V = min (rung 0 V) INF := by
 have e : bl V - fD.man = V.log2 - 52 := by
  unfold bl
  rw [if_neg hV]
  show V.log2 + 1 - 53 = V.log2 - 52
  omega
 have r : ∀ k, nr V k = rhe V k := fun k => by
  unfold nr rhe
  congr 1
  have : (2^k < 2 * (V % 2^k) ∨ (2 * (V % 2^k) = 2^k ∧ V / 2^k % 2 = 1)) ↔ (2^k < 2 * (V % 2^k) ∨ (2^k = 2 * (V % 2^k) ∧ V / 2^k % 2 = 1)) := by
   constructor
   ·rintro (h | ⟨h1, h2⟩)
    ·exact .inl h
    ·exact .inr ⟨h1.symm, h2⟩
   ·rintro (h | ⟨h1, h2⟩)
    ·exact .inl h
    ·exact .inr ⟨h1.symm, h2⟩
  simp only [this]
 have hd : hdF fD = 2^52 := by decide
 unfold rsz rung kx
 rw [e, r, hd]
 rfl
theorem rn_ne {v : Int} (h : v ≠ 0) : rnI 0 v ≠ 0 ∧ (rnI 0 v < 0 ↔ v < 0) := by
 have r := Fl.rel0n (Fl.dvd0 v)
 refine ⟨fun e => ?_, ?_⟩
 ·rw [e] at r; omega
 ·omega
theorem pat_form {a : Nat} (ha : a < 18446744073709551616) (fa : fin a) {v : Int} (v0 : v ≠ 0) : Rp4.pv fD 0 v = a ↔ U a = rnI 0 v := by
 have n0 : v.natAbs ≠ 0 := by omega
 have hz := ddv_fmD.sz
 have rr := dz_rung n0
 have hI : INF = fD.inf := ddv_INF
 have ms : ∀ n s, s < fD.sg → sz (pat fD n s) = s ∧ ng (pat fD n s) = n := fun n s hs => by
  have lt : pat fD n s < 18446744073709551616 := pat_lt fD n hs
  refine ⟨pat_mod fD n hs, ?_⟩
  rw [← ng_sg lt]; exact pat_ge fD n hs
 have bound : rsz fD 0 v.natAbs < fD.sg := by have := Nat.min_le_right (rung 0 v.natAbs) INF; omega
 obtain ⟨k1, k2⟩ := ms (decide (v < 0)) _ bound
 constructor
 ·intro e
  unfold Rp4.pv at e
  rw [if_neg v0] at e
  rw [e] at k1 k2
  have i : Isn 0 v a := ⟨ha, by rw [k1]; exact rr, fun _ => k2⟩
  exact isn_val i fa
 ·intro e
  obtain ⟨r0, rs⟩ := rn_ne v0
  have q := rnI_natAbs 0 v
  rw [← e, U_natAbs] at q
  have m := mg_rung 0 v.natAbs
  rw [Nat.pow_zero, Nat.mul_one, ← q] at m
  have es := mg_inj m
  have fa' : sz a < INF := fa
  have e2 : rsz fD 0 v.natAbs = sz a := by rw [rr]; omega
  have en : ng a = decide (v < 0) := by
   have u : U a = if ng a = true then -((mg (sz a) : Nat) : Int) else ((mg (sz a) : Nat) : Int) := rfl
   by_cases c : v < 0
   ·rw [decide_eq_true c]
    have := rs.2 c
    rw [← e, u] at this
    by_cases d : ng a = true
    ·exact d
    ·rw [if_neg d] at this; omega
   ·rw [decide_eq_false c]
    have : ¬ U a < 0 := fun w => c (rs.1 (by rw [← e]; exact w))
    rw [u] at this
    by_cases d : ng a = true
    ·rw [if_pos d] at this
     rw [← e, u, if_pos d] at r0
     omega
    ·exact Bool.not_eq_true _ ▸ d
  unfold Rp4.pv
  rw [if_neg v0, e2, ← en]
  exact ddv_pat ha
theorem dz_signed (n : Bool) {s : Nat} (hs : s ≤ fD.inf) (P E G I Q : Int) : gnomonref08_signed.f ((fD.sg : Nat) : Int) P E G I Q n (s : Int) = some ((pat fD n s : Nat) : Int) := by
 have hz := ddv_fmD.sz
 unfold gnomonref08_signed.f pat
 cases n
 ·rw [if_neg (by decide), if_neg (by decide)]
 ·rw [if_pos rfl, if_pos rfl, wu64 (by omega) (by omega)]; rfl
theorem told_ev {v : Int} (v0 : v ≠ 0) (hb : bl v.natAbs ≤ 100000) : Ev (fun k => gnomonref08_Told.f k 64 (zn v) (zl v) (-1074)) (((Rp4.pv fD 0 v : Nat) : Int)) := by
 have n0 : v.natAbs ≠ 0 := by omega
 have q : Qt fD v.natAbs 1 (-1074) (-1075) := ⟨n0, by decide, by omega, by decide, by decide, by decide, by decide, by decide⟩
 obtain ⟨s, nq, r⟩ := size_ev ddv_fmD q 971 ((fD.qt : Nat) : Int)
 have e1 : qn v.natAbs (-1074) (-1075) = v.natAbs * 2 := rfl
 have e2 : qd fD 1 (-1075) = 1 * 2 := rfl
 rw [e1, e2] at nq
 have es := rsz_eq ddv_fmD (nst_of_nq (g := 0) (nq_scale (by decide) nq))
 have one := word_ev 1 (by decide) (by decide)
 unfold gnomonref08_Told.f
 refine Ev.bind (sz_ev dz_of) (Ev.congr (fun k => if_neg ?_) (Ev.bind one (Ev.bind r ?_)))
 ·intro c
  exact n0 (dg_len_zero.1 (by unfold zl at c; omega))
 ·dsimp only
  refine Ev.bind (sz_ev (dz_signed (zn v) nq.le _ _ _ _ _)) ?_
  unfold Rp4.pv
  rw [if_neg v0, es]
  exact Ev.now _
theorem dz_mod (a : Nat) : Int.tmod (a : Int) 9223372036854775808 = ((sz a : Nat) : Int) := (Int.ofNat_tmod a 9223372036854775808).symm
theorem dz_fin (a : Nat) : gnomonref20_Finite.f (a : Int) = some (decide (sz a < 9218868437227405312)) := by
 unfold gnomonref20_Finite.f
 rw [dz_mod]
 exact congrArg some (decide_eq_decide.2 ⟨fun q => by omega, fun q => by omega⟩)
theorem dz_nought (a : Nat) : gnomonref20_Nought.f (a : Int) = some (decide (sz a = 0)) := by
 unfold gnomonref20_Nought.f
 rw [dz_mod]
 by_cases c : sz a = 0
 ·rw [c]; rfl
 ·rw [decide_eq_false c, beq_eq_false_iff_ne.2 (by omega)]
theorem U_zero {a : Nat} : U a = 0 ↔ sz a = 0 := by
 have := U_natAbs a
 constructor
 ·intro h; rw [h] at this; exact mg_zero.1 this.symm
 ·intro h; rw [h] at this
  have e : mg 0 = 0 := rfl
  omega
theorem docform {a b : Nat} (ha : a < 18446744073709551616) (hb : b < 18446744073709551616) : (FormP a b ∧ Ev (fun k => gnomonref20_DocForm.f k (a : Int) (b : Int)) true) ∨ (¬ FormP a b ∧ Ev (fun k => gnomonref20_DocForm.f k (a : Int) (b : Int)) false) := by
 unfold gnomonref20_DocForm.f
 by_cases f1 : fin a
 rotate_left
 ·refine .inr ⟨fun h => f1 h.1, Ev.bind (sz_ev (dz_fin a)) (Ev.congr (fun k => if_neg ?_) (Ev.now _))⟩
  rw [decide_eq_false (fun h => f1 ((fin_iff a).2 h))]; decide
 by_cases f2 : fin b
 rotate_left
 ·refine .inr ⟨fun h => f2 h.2.1, Ev.bind (sz_ev (dz_fin a)) (Ev.congr (fun k => if_pos (decide_eq_true ((fin_iff a).1 f1))) (Ev.bind (sz_ev (dz_fin b)) (Ev.congr (fun k => if_neg ?_) (Ev.now _))))⟩
  rw [decide_eq_false (fun h => f2 ((fin_iff b).2 h))]; decide
 have step : ∀ r : Bool, Ev (fun k => if Ref.sgn (V a b) = 0 then ((gnomonref20_Nought.f (a : Int)).bind fun t5 => (some t5)) else ((gnomonref08_Told.f k 64 (zn (V a b)) (zl (V a b)) (-1074)).bind fun t6 => (some (t6 == (a : Int))))) r →
   Ev (fun k => (gnomonref20_Finite.f (a : Int)).bind fun t1 => (if t1 = true then ((gnomonref20_Finite.f (b : Int)).bind fun t2 => (if t2 = true then ((gnomonref20_Sum.f k (a : Int) (b : Int)).bind fun bt3 => ((gnomonref04_Sign.f bt3.1 bt3.2).bind fun t4 => (if t4 = 0 then ((gnomonref20_Nought.f (a : Int)).bind fun t5 => (some t5)) else ((gnomonref08_Told.f k 64 bt3.1 bt3.2 (-1074)).bind fun t6 => (some (t6 == (a : Int))))))) else (some false))) else (some false))) r := fun r h =>
  Ev.bind (sz_ev (dz_fin a)) (Ev.congr (fun k => if_pos (decide_eq_true ((fin_iff a).1 f1))) (Ev.bind (sz_ev (dz_fin b)) (Ev.congr (fun k => if_pos (decide_eq_true ((fin_iff b).1 f2))) (Ev.bind (sum_ev ha hb) (Ev.bind (sz_ev (zsign (V a b))) h)))))
 have sg : Ref.sgn (V a b) = 0 ↔ V a b = 0 := by unfold Ref.sgn; split <;> (try split) <;> omega
 by_cases v0 : V a b = 0
 ·have q : FormP a b ↔ sz a = 0 := by
   unfold FormP
   have e : U a + U b = 0 := v0
   rw [e, Fl.rn0, U_zero]
   exact ⟨fun h => h.2.2, fun h => ⟨f1, f2, h⟩⟩
  by_cases c : sz a = 0
  ·refine .inl ⟨q.2 c, step _ (Ev.congr (fun k => if_pos (sg.2 v0)) (Ev.bind (sz_ev (dz_nought a)) ?_))⟩
   rw [decide_eq_true c]; exact Ev.now _
  ·refine .inr ⟨fun h => c (q.1 h), step _ (Ev.congr (fun k => if_pos (sg.2 v0)) (Ev.bind (sz_ev (dz_nought a)) ?_))⟩
   rw [decide_eq_false c]; exact Ev.now _
 ·have t := told_ev v0 (Nat.le_trans (bl_V a b) (by decide))
  have pf := pat_form ha f1 v0
  by_cases c : U a = rnI 0 (V a b)
  ·refine .inl ⟨⟨f1, f2, c⟩, step _ (Ev.congr (fun k => if_neg (fun h => v0 (sg.1 h))) (Ev.bind t ?_))⟩
   rw [pf.2 c, beq_self_eq_true]; exact Ev.now _
  ·refine .inr ⟨fun h => c h.2.2, step _ (Ev.congr (fun k => if_neg (fun h => v0 (sg.1 h))) (Ev.bind t ?_))⟩
   rw [beq_eq_false_iff_ne.2 (fun h => c (pf.1 (by omega)))]; exact Ev.now _
theorem fitFloat (a : Nat) : (fitS a ∧ gnomonref20_FitFloat.f (a : Int) = some true) ∨ (¬ fitS a ∧ gnomonref20_FitFloat.f (a : Int) = some false) := by
 unfold gnomonref20_FitFloat.f fitS
 rw [dz_mod]
 by_cases c0 : sz a = 0
 ·exact .inl ⟨.inl c0, if_pos (by omega)⟩
 rw [if_neg (by omega)]
 by_cases c1 : 3256102530588868608 ≤ sz a
 ·rw [if_pos (by omega)]
  by_cases c2 : sz a ≤ 5958262307011166208
  ·exact .inl ⟨.inr ⟨by omega, by omega⟩, by rw [decide_eq_true (by omega)]⟩
  ·exact .inr ⟨by omega, by rw [decide_eq_false (by omega)]⟩
 ·rw [if_neg (by omega)]
  exact .inr ⟨by omega, rfl⟩
theorem fit {a b : Nat} (ha : a < 18446744073709551616) (hb : b < 18446744073709551616) : ((Frm a b ∧ fitS a) ∧ Ev (fun k => gnomonref20_Fit.f k (a : Int) (b : Int)) true) ∨ Ev (fun k => gnomonref20_Fit.f k (a : Int) (b : Int)) false := by
 unfold gnomonref20_Fit.f
 rcases docform ha hb with ⟨F, e⟩ | ⟨F, e⟩
 ·rcases fitFloat a with ⟨s, e2⟩ | ⟨s, e2⟩
  ·exact .inl ⟨⟨FormP_Frm ha hb F, s⟩, Ev.bind e (Ev.congr (fun k => if_pos rfl) (Ev.bind (sz_ev e2) (Ev.now _)))⟩
  ·exact .inr (Ev.bind e (Ev.congr (fun k => if_pos rfl) (Ev.bind (sz_ev e2) (Ev.now _))))
 ·exact .inr (Ev.bind e (Ev.congr (fun k => if_neg (by decide)) (Ev.now _)))
end Go.Proofs.YtapikmfckpgjoaaGreatDoor.Dz
