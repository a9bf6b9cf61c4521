/- What the reference of layer 5 tells of a number in units, and what the law's asks answers. Plain Lean over the functions. Condition: words. The walk of the law DdForms: it returns true, and the world has at most new blocks. Conditions: the script reads as calls; math/bits' table. -/
import Derived.Test.YtapikmfckpgjoaaGreatDoorKDdFormsDdAll
import Derived.Test.YtapikmfckpgjoaaGreatDoorKDdFormsPxRfz
import Derived.Test.YtapikmfckpgjoaaGreatDoorKDdFormsPRfzx0
import Derived.Test.YtapikmfckpgjoaaGreatDoorKDdFormsPxQ0
import Derived.Test.YtapikmfckpgjoaaGreatDoorKDdFormsPxZ0
import Derived.Test.YtapikmfckpgjoaaGreatDoorKDdFormsPxL1
section
set_option linter.unusedVariables false
namespace Go.Proofs.YtapikmfckpgjoaaGreatDoor.DdFo
open Go.RowKit Go.Proofs.YtapikmfckpgjoaaGreatDoorW.PrintWords Go.Proofs.YtapikmfckpgjoaaGreatDoorW.PrintMore Go.Proofs.YtapikmfckpgjoaaGreatDoor.Num Go.Proofs.YtapikmfckpgjoaaGreatDoor.PLib Go.Proofs.YtapikmfckpgjoaaGreatDoor.PRef Go.Proofs.YtapikmfckpgjoaaGreatDoor.Ref Go.Proofs.YtapikmfckpgjoaaGreatDoor.GTh Go.Proofs.YtapikmfckpgjoaaGreatDoor.Given Go.Proofs.YtapikmfckpgjoaaGreatDoor.BinLaw Go.Proofs.YtapikmfckpgjoaaGreatDoor.Rp1 Go.Proofs.YtapikmfckpgjoaaGreatDoor.Rp4 Go.Proofs.YtapikmfckpgjoaaGreatDoor.Rp5 Go.Proofs.YtapikmfckpgjoaaGreatDoor.Rp7 Go.Proofs.YtapikmfckpgjoaaGreatDoor.DdB Go.Proofs.YtapikmfckpgjoaaGreatDoor.DdV Go.Proofs.YtapikmfckpgjoaaGreatDoor.DdE Go.Proofs.YtapikmfckpgjoaaGreatDoor.DdWi Go.Proofs.YtapikmfckpgjoaaGreatDoor.Dz Go.Proofs.YtapikmfckpgjoaaGreatDoor.DdRe
theorem nl_step {n : Nat} (h : n ≠ 0) : nl n = nl (n / 18446744073709551616) + 1 := by
 have p : (2:Nat)^64 = 18446744073709551616 := by decide
 by_cases c : n / 18446744073709551616 = 0
 ·rw [c]
  have h1 : bl n ≤ 64 := bl_le_of_lt (by rw [p]; omega)
  have h2 : bl n ≠ 0 := fun e => by have := bl_lt n; rw [e] at this; omega
  have e : nl 0 = 0 := rfl
  rw [e]
  unfold nl
  omega
 ·have a := bl_ge c
  have b := bl_lt (n / 18446744073709551616)
  have k1 : 1 ≤ bl (n / 18446744073709551616) := by
   rcases Nat.eq_zero_or_pos (bl (n / 18446744073709551616)) with e | e
   ·rw [e] at b; omega
   ·exact e
  have e : bl n = bl (n / 18446744073709551616) + 64 := by
   refine bl_of ?_ (.inr ?_)
   ·rw [Nat.pow_add, p]; omega
   ·rw [show bl (n / 18446744073709551616) + 64 - 1 = (bl (n / 18446744073709551616) - 1) + 64 by omega, Nat.pow_add, p]; omega
  unfold nl
  omega
theorem dw_step (n j : Nat) : dw n (j + 1) = dw (n / 18446744073709551616) j := by
 have e : pw (j + 1) = 18446744073709551616 * pw j := by
  unfold pw
  rw [show 64 * (j + 1) = 64 + 64 * j by omega, Nat.pow_add, show (2:Nat)^64 = 18446744073709551616 by decide]
 unfold dw
 rw [Nat.div_div_eq_div_mul, e]
theorem lm_lb (n : Nat) : lm n = lb n := by
 induction n using Nat.strongRecOn with
 | _ n ih =>
  by_cases h : n = 0
  ·subst h; rw [lm_zero]; rfl
  ·have lt : n / 18446744073709551616 < n := Nat.div_lt_self (by omega) (by decide)
   rw [lm_pos h, ih _ lt]
   unfold lb
   rw [nl_step h, List.range_succ_eq_map, List.map_cons, List.map_map]
   congr 1
   ·unfold dw; rw [pw_zero, Nat.div_one]
   ·refine List.map_congr_left fun j _ => ?_
    show ((dw (n / 18446744073709551616) j : Nat) : Int) = ((dw n (j + 1) : Nat) : Int)
    rw [dw_step]
theorem len_small {m k : Nat} (h : bl m ≤ 32 * k) : (dg m).length ≤ k := dg_len_le (by rw [pw_B]; exact Nat.lt_of_lt_of_le (bl_lt m) (Nat.pow_le_pow_right (by decide) h))
theorem told5 {v : Int} (hb : bl v.natAbs ≤ 5000) : ∃ n m x, Dy (-1074) n m x v ∧ Ev (fun k => gnomonref05_Told.f k (zn v) (zl v) (-1074)) (n, lb m, x, 0) := by
 by_cases v0 : v = 0
 ·subst v0
  refine ⟨false, 0, 0, ⟨⟨by decide, fun _ => ⟨rfl, rfl⟩, fun h => absurd rfl h, by decide, by decide⟩, by decide, by unfold vs; rw [if_neg (by decide), Nat.zero_mul]; rfl⟩, ?_⟩
  unfold gnomonref05_Told.f
  refine Ev.congr (fun k => if_pos ?_) (Ev.now _)
  unfold zl; rw [Int.natAbs_zero, dg_zero]; rfl
 have n0 : v.natAbs ≠ 0 := by omega
 generalize hm : v.natAbs = m at *
 have len : (dg m).length ≤ 157 := len_small (by omega)
 obtain ⟨z, ⟨hz1, hz2⟩, ez⟩ := zeros_ev m n0 (by omega)
 obtain ⟨o, ho⟩ := hz1
 have pz : 0 < 2^z := Nat.two_pow_pos z
 have zb : z ≤ 5000 := by
  have : 2^z ≤ m := Nat.le_of_dvd (Nat.pos_of_ne_zero n0) ⟨o, ho⟩
  have h2 := Nat.lt_of_le_of_lt this (bl_lt m)
  have := (Nat.pow_lt_pow_iff_right (by decide : 1 < 2)).1 h2
  omega
 have od : o % 2 = 1 := by
  rcases Nat.mod_two_eq_zero_or_one o with e | e
  ·exfalso
   refine hz2 ⟨o / 2, ?_⟩
   rw [ho, Nat.pow_succ, Nat.mul_assoc]
   congr 1
   omega
  ·exact e
 have q : m / 2^z = o := by rw [ho]; exact Nat.mul_div_cancel_left _ pz
 have bo : bl o ≤ 5000 := by
  have : o ≤ m := by rw [ho]; exact Nat.le_mul_of_pos_left _ pz
  exact Nat.le_trans (bl_mono this) hb
 have leno : (dg o).length ≤ 157 := len_small (by omega)
 have sh := shr_ev m z (by omega) (by omega)
 rw [q] at sh
 have w1 : wrap64 (-1074 + (z : Int)) = -1074 + (z : Int) := w64 (by omega) (by omega)
 have mk := zmk_ev (zn v) o (by omega) (if v < 0 then -(o : Int) else (o : Int)) (by split <;> omega) (fun _ => by unfold zn; split <;> rename_i c <;> (rw [decide_eq_decide]; omega))
 have zno : zn (if v < 0 then -(o : Int) else (o : Int)) = zn v := by unfold zn; split <;> rename_i c <;> (rw [decide_eq_decide]; omega)
 have zlo : zl (if v < 0 then -(o : Int) else (o : Int)) = dg o := by unfold zl; congr 1; split <;> omega
 rw [zno, zlo] at mk
 have tq := to_ev o (by omega)
 rw [lm_lb] at tq
 have l0 : 0 < (dg o).length := by
  rcases Nat.eq_zero_or_pos (dg o).length with e | e
  ·have := dg_len_zero.1 e; omega
  ·exact e
 refine ⟨zn v, o, -1074 + z, ⟨⟨nl_of_bl (by omega), fun h => by omega, fun _ => od, by omega, by omega⟩, by omega, ?_⟩, ?_⟩
 ·rw [vs_sv, show (-1074 + (z : Int) - -1074).toNat = z by omega, Nat.mul_comm, ← ho]
  unfold sv zn
  by_cases c : v < 0
  ·rw [decide_eq_true c, if_pos rfl]; omega
  ·rw [decide_eq_false c, if_neg (by decide)]; omega
 ·have tos : Ev (fun k => gnomonref04_To.f k (zn v) (dg o)) (zn v, lb o) := by
   unfold gnomonref04_To.f
   by_cases c : zn v = true
   ·refine Ev.congr (fun k => if_pos c) (Ev.bind tq ?_)
    rw [decide_eq_true (show ((dg o).length : Int) > 0 by omega), c]; exact Ev.now _
   ·refine Ev.congr (fun k => if_neg c) (Ev.bind tq ?_)
    rw [Bool.not_eq_true] at c
    rw [c]; exact Ev.now _
  have j1 : Ev (fun k => gnomonref05_Told.j1 k (-1074) (z : Int) (dg o) false (zn v) (dg m)) (zn v, lb o, -1074 + (z : Int), 0) := by
   refine Ev.step (fun k => by rw [gnomonref05_Told.j1, if_neg (by decide)]) (Ev.bind mk (Ev.bind tos ?_))
   rw [w1]; exact Ev.now _
  have g1 : ¬ ((dg o).length : Int) > 16384 := by omega
  have g2 : ¬ wrap64 (-1074 + (z : Int)) < -1048576 := by rw [w1]; omega
  have g3 : ¬ wrap64 (-1074 + (z : Int)) > 1048576 := by rw [w1]; omega
  have j0 : Ev (fun k => gnomonref05_Told.j0 k (-1074) false (zn v) (dg m)) (zn v, lb o, -1074 + (z : Int), 0) := by
   refine Ev.step (fun k => by rw [gnomonref05_Told.j0, if_neg (by decide)]) (Ev.bind ez (Ev.bind sh (Ev.congr (fun k => if_neg g1) (Ev.congr (fun k => if_neg g2) ?_))))
   rw [decide_eq_false g3]
   exact j1
  unfold gnomonref05_Told.f
  have zlm : zl v = dg m := by unfold zl; rw [hm]
  rw [zlm]
  refine Ev.congr (fun k => if_neg ?_) (Ev.congr (fun k => if_neg (by decide)) ?_)
  ·intro c; exact n0 (dg_len_zero.1 (by omega))
  ·exact j0
theorem fo_same (l : List Int) (hl : l.length < 9223372036854775807) : Ev (fun k => gnomonref01_Same.f k l l) true := by
 unfold gnomonref01_Same.f
 refine Ev.congr (fun k => if_pos rfl) ?_
 have key : ∀ (n i : Nat), i + n = l.length → Ev (fun k => gnomonref01_Same.l0 k l l (i : Int)) true := by
  intro n
  induction n with
  | zero =>
   intro i hi
   exact Ev.step (f := fun _ => some true) (fun k => by rw [gnomonref01_Same.l0, if_neg (by omega)]) (Ev.now _)
  | succ n ih =>
   intro i hi
   refine Ev.step (f := fun k => gnomonref01_Same.l0 k l l ((i + 1 : Nat) : Int)) (fun k => ?_) (ih (i + 1) (by omega))
   rw [gnomonref01_Same.l0, if_pos (by omega), if_pos (by omega), if_pos (by omega), if_pos rfl, w64 (by omega) (by omega), show (i : Int) + 1 = ((i + 1 : Nat) : Int) by omega]
 exact key l.length 0 (by omega)
theorem fo_dy {E : Int} {n n' : Bool} {m m' : Nat} {x x' V : Int} (h : Dy E n m x V) (h' : Dy E n' m' x' V) : Ev (fun k => gnomonref05_Same.f k n (lb m) x n' (lb m') x') true := by
 obtain ⟨rfl, rfl, rfl⟩ := h.uniq h'
 unfold gnomonref05_Same.f
 refine Ev.congr (fun k => if_pos (by rw [beq_self_eq_true])) (Ev.congr (fun k => if_pos rfl) (Ev.bind (fo_same (lb m) ?_) (Ev.now _)))
 rw [lb_len]
 have := h.dk.lim
 omega
theorem fo_none : Ev (fun k => gnomonref05_Same.f k false [] 0 false [] 0) true := by
 unfold gnomonref05_Same.f
 exact Ev.congr (fun k => if_pos rfl) (Ev.congr (fun k => if_pos rfl) (Ev.bind (fo_same [] (by decide)) (Ev.now _)))
theorem docvalue_ev {a b : Nat} (F : Frm a b) : ∃ n m x, Dy (-1074) n m x (V a b) ∧ Ev (fun k => gnomonref20_DocValue.f k (a : Int) (b : Int)) (n, lb m, x, 0) := by
 obtain ⟨n, m, x, d, e⟩ := told5 (v := V a b) (Nat.le_trans (bl_V a b) (by decide))
 refine ⟨n, m, x, d, ?_⟩
 unfold gnomonref20_DocValue.f
 exact Ev.bind (form_ev F) (Ev.congr (fun k => if_pos rfl) (Ev.bind (sum_ev F.lh F.ll) (Ev.bind e (Ev.now _))))
theorem sgn_cmZ (a b : Int) : Ref.sgn (a - b) = cmZ a b := by unfold Ref.sgn cmZ; split <;> (try split) <;> (try split) <;> (try split) <;> omega
theorem asks_ev (kd : Int) (a b c d : Nat) (h1 : 1 ≤ kd) (h5 : kd ≤ 5) (ha : a < 18446744073709551616) (hb : b < 18446744073709551616) (hc : c < 18446744073709551616) (hd : d < 18446744073709551616) :
  Ev (fun k => gnomonlaw20_asks.f k kd (a : Int) (b : Int) (c : Int) (d : Int)) true := by
 unfold gnomonlaw20_asks.f
 by_cases k1 : kd = 1
 ·refine Ev.congr (fun k => if_pos k1) (Ev.bind (ev_of (wi_pair a b)) ?_)
  rcases form_f ha hb with ⟨F, e⟩ | ⟨F, e⟩
  ·exact Ev.bind (ev_of e) (Ev.bind ((docform ha hb).resolve_right fun h => h.1 F).2 (Ev.now _))
  ·exact Ev.bind (ev_of e) (Ev.bind ((docform ha hb).resolve_left fun h => F h.1).2 (Ev.now _))
 refine Ev.congr (fun k => if_neg k1) ?_
 by_cases k2 : kd = 2
 ·refine Ev.congr (fun k => if_pos k2) (Ev.bind (ev_of (wi_pair a b)) ?_)
  rcases docform ha hb with ⟨F, e⟩ | ⟨F, e⟩
  ·obtain ⟨n, m, x, d1, v1⟩ := value_f ha hb F
   obtain ⟨n', m', x', d2, v2⟩ := docvalue_ev (FormP_Frm ha hb F)
   exact Ev.bind v1 (Ev.bind v2 (Ev.bind (fo_dy d1 d2) (Ev.congr (fun k => if_pos rfl) (Ev.now _))))
  ·have v2 : Ev (fun k => gnomonref20_DocValue.f k (a : Int) (b : Int)) (false, [], 0, 2) := by
    unfold gnomonref20_DocValue.f
    exact Ev.bind e (Ev.congr (fun k => if_neg (by decide)) (Ev.now _))
   exact Ev.bind (value_no ha hb F) (Ev.bind v2 (Ev.bind fo_none (Ev.congr (fun k => if_pos rfl) (Ev.now _))))
 refine Ev.congr (fun k => if_neg k2) ?_
 by_cases k3 : kd = 3
 ·refine Ev.congr (fun k => if_pos k3) (Ev.bind (ev_of (wi_float a)) ?_)
  by_cases f : Fl.fin a
  ·obtain ⟨F, v⟩ := DdByDyadicsL.of_Frm ha f
   have n0 : gnomonref20_Nought.f ((0 : Nat) : Int) = some true := by rw [dz_nought]; rfl
   exact Ev.bind (ev_of (DdByDyadicsL.of_fin ha f)) (Ev.bind (ev_of (re_bits a 0)) (Ev.bind (ev_of (dz_fin a)) (Ev.congr (fun k => if_pos (decide_eq_true ((fin_iff a).1 f))) (Ev.bind (number_ev ha) (Ev.bind (just_ev F v) (Ev.congr (fun k => if_pos rfl) (Ev.bind (ev_of n0) (Ev.now _))))))))
  ·have nf : decide (Fl.sz a < 9218868437227405312) = false := decide_eq_false fun h => f ((fin_iff a).2 h)
   have o : dd_Of.f a = some (0, 0) := by
    unfold dd_Of.f
    rw [finite_f ha, Option.bind_some, nf]; rfl
   have n0 : gnomonref20_Nought.f ((0 : Nat) : Int) = some true := by rw [dz_nought]; rfl
   exact Ev.bind (ev_of o) (Ev.bind (ev_of (re_bits 0 0)) (Ev.bind (ev_of (dz_fin a)) (Ev.congr (fun k => if_neg (by rw [nf]; decide)) (Ev.bind (ev_of n0) (Ev.congr (fun k => if_pos rfl) (Ev.bind (ev_of n0) (Ev.now _)))))))
 refine Ev.congr (fun k => if_neg k3) ?_
 by_cases k4 : kd = 4
 ·refine Ev.congr (fun k => if_pos k4) (Ev.bind (ev_of (wi_pair a b)) ?_)
  have nn : dd_Neg.f a b = some (Op.negFloat .f64 a, Op.negFloat .f64 b) := rfl
  refine Ev.bind (ev_of nn) (Ev.bind (ev_of (re_bits _ _)) ?_)
  rcases docform ha hb with ⟨F, e⟩ | ⟨F, e⟩
  ·exact Ev.bind e (Ev.congr (fun k => if_pos rfl) (Ev.bind (sum_ev ha hb) (Ev.bind (zflip_ev (V a b) (Zs_V a b)) (Ev.bind (just_ev (neg_Frm (FormP_Frm ha hb F)) (neg_V ha hb)) (Ev.now _)))))
  ·exact Ev.bind e (Ev.congr (fun k => if_neg (by decide)) (Ev.now _))
 refine Ev.congr (fun k => if_neg k4) (Ev.bind (ev_of (wi_pair a b)) (Ev.bind (ev_of (wi_pair c d)) ?_))
 rcases docform ha hb with ⟨F, e⟩ | ⟨F, e⟩
 ·rcases docform hc hd with ⟨G, e2⟩ | ⟨G, e2⟩
  ·have zc := zcmp_ev (V a b) (V c d) (Zs_V a b) (Zs_V c d) (Zs_sub (Nat.le_trans (bl_V a b) (by decide)) (Nat.le_trans (bl_V c d) (by decide)))
   rw [sgn_cmZ] at zc
   have doc : Ev (fun k => gnomonref20_DocCmp.f k (a : Int) (b : Int) (c : Int) (d : Int)) (cmZ (V a b) (V c d)) := by
    unfold gnomonref20_DocCmp.f
    exact Ev.bind e (Ev.congr (fun k => if_pos rfl) (Ev.bind e2 (Ev.congr (fun k => if_pos rfl) (Ev.bind (sum_ev ha hb) (Ev.bind (sum_ev hc hd) (Ev.bind zc (Ev.now _)))))))
   refine Ev.bind (ev_of (cmp_f ha hb hc hd F G)) (Ev.bind doc ?_)
   rw [beq_self_eq_true]; exact Ev.now _
  ·have doc : Ev (fun k => gnomonref20_DocCmp.f k (a : Int) (b : Int) (c : Int) (d : Int)) 0 := by
    unfold gnomonref20_DocCmp.f
    exact Ev.bind e (Ev.congr (fun k => if_pos rfl) (Ev.bind e2 (Ev.congr (fun k => if_neg (by decide)) (Ev.now _))))
   exact Ev.bind (ev_of (cmp_no ha hb hc hd fun h => G h.2)) (Ev.bind doc (Ev.now _))
 ·have doc : Ev (fun k => gnomonref20_DocCmp.f k (a : Int) (b : Int) (c : Int) (d : Int)) 0 := by
   unfold gnomonref20_DocCmp.f
   exact Ev.bind e (Ev.congr (fun k => if_neg (by decide)) (Ev.now _))
  exact Ev.bind (ev_of (cmp_no ha hb hc hd fun h => F h.1)) (Ev.bind doc (Ev.now _))
theorem playsA_ev (kd : Int) (a b c d : Nat) (h1 : 1 ≤ kd) (h5 : kd ≤ 5) (ha : a < 18446744073709551616) (hb : b < 18446744073709551616) (hc : c < 18446744073709551616) (hd : d < 18446744073709551616) :
  Ev (fun k => gnomonlaw20_playsA.f k kd (a : Int) (b : Int) (c : Int) (d : Int)) true := by
 have r := asks_ev kd a b c d h1 h5 ha hb hc hd
 unfold gnomonlaw20_playsA.f
 exact Ev.congr (fun k => if_pos (by omega)) (Ev.congr (fun k => if_pos (by omega)) (Ev.bind r (Ev.now _)))
end Go.Proofs.YtapikmfckpgjoaaGreatDoor.DdFo
end
section
namespace Go.Proofs.YtapikmfckpgjoaaGreatDoor.DdFormsW
open Go.RowKit Go.Proofs.YtapikmfckpgjoaaGreatDoorW.PrintWords Go.Proofs.YtapikmfckpgjoaaGreatDoorW.PrintMore Go.Proofs.YtapikmfckpgjoaaGreatDoorW.PrintLast Go.Proofs.YtapikmfckpgjoaaGreatDoor.GBase Go.Proofs.YtapikmfckpgjoaaGreatDoor.DdAll Go.Proofs.YtapikmfckpgjoaaGreatDoor.Px
theorem plays_ok5 {lo hi : Int} (h1 : 1 ≤ lo) (h5 : hi ≤ 5) : PlaysOk Gw lo hi := by
 intro k a b c d w gw l1 l2 ha hb hc hd
 obtain ⟨n, hn⟩ := (DdFo.playsA_ev k a b c d (by omega) (by omega) ha hb hc hd).rounds
 exact run_t (PLib.gnomonlaw20_playsA.c hn) gw (.cons ⟨[_, _, _, _, _], rfl, .cons rfl (.cons rfl (.cons rfl (.cons rfl (.cons rfl .nil))))⟩ .nil)
theorem forms_any (a : Option Addr) (len cap : Nat) (W : World) (hs : IsOps W a len) (hn : len < 9000000000000000000) (gw : Gw W) : Calls Tryz.prog 3 #[.slice a len cap] W (OnW W) := by
 have HS := Lib.hid hs
 have HG := Lib.hid gw
 clear hs gw
 go_enter Tryz.func3, Tryz.ntmps3
 go_wp2_with fail
 refine (awake_run HG.out).mono ?_
 rintro e w1 ⟨rfl, h1⟩
 have HB := Lib.hid h1
 clear h1
 go_wp2_with fail
 refine (all_any Gw Gw_next a len cap 1 5 W _ HS.out HB.out (Gw_next _ _ HG.out HB.out) hn (plays_ok5 (by decide) (by decide))).mono ?_
 rintro e w2 ⟨rfl, h2⟩
 have HB := Lib.hid (on HB.out h2)
 clear h2
 go_wp2_with fail
 go_ret
 exact ⟨rfl, HB.out⟩
end Go.Proofs.YtapikmfckpgjoaaGreatDoor.DdFormsW
end
