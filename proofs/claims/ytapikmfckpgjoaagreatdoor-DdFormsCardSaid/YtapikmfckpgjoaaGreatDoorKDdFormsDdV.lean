/- What dd's Form, Value, Neg and Cmp answer, by values: plain Lean over the functions. Condition: words. -/
import Derived.Test.YtapikmfckpgjoaaGreatDoorKDdFormsRp7
import Derived.Test.YtapikmfckpgjoaaGreatDoorKDdFormsAccW
import Derived.Test.YtapikmfckpgjoaaGreatDoorKDdFormsPxL1
set_option linter.unusedVariables false
namespace Go.Proofs.YtapikmfckpgjoaaGreatDoor.DdV
open Go.RowKit Go.Proofs.YtapikmfckpgjoaaGreatDoorW.PrintWords Go.Proofs.YtapikmfckpgjoaaGreatDoorW.PrintMore Go.Proofs.YtapikmfckpgjoaaGreatDoor.Num Go.Proofs.YtapikmfckpgjoaaGreatDoor.PLib Go.Proofs.YtapikmfckpgjoaaGreatDoor.Ref Go.Proofs.YtapikmfckpgjoaaGreatDoor.GTh Go.Proofs.YtapikmfckpgjoaaGreatDoor.Given Go.Proofs.YtapikmfckpgjoaaGreatDoor.Rp1 Go.Proofs.YtapikmfckpgjoaaGreatDoor.Rp2 Go.Proofs.YtapikmfckpgjoaaGreatDoor.Rp3 Go.Proofs.YtapikmfckpgjoaaGreatDoor.Rp4 Go.Proofs.YtapikmfckpgjoaaGreatDoor.Rp5 Go.Proofs.YtapikmfckpgjoaaGreatDoor.Rp7 Go.Proofs.YtapikmfckpgjoaaGreatDoor.BinLaw Go.Proofs.YtapikmfckpgjoaaGreatDoor.Fm8 Go.Proofs.YtapikmfckpgjoaaGreatDoor.Rnd Go.Proofs.YtapikmfckpgjoaaGreatDoor.Px Go.Proofs.YtapikmfckpgjoaaGreatDoor.AccW Go.Proofs.YtapikmfckpgjoaaGreatDoor.DdB
open Ieee
open Fl (mg sz ng U fin INF U_natAbs rnI rn rung mg_rung Isn add_isn mg_le mg_lt mg_le_iff ord_fin coe_lt coe_eq coe_gt eq_fin read_fin read_inf rnI_natAbs rnI_near rnI_neg rnI_isF rung_zero le_abs ng_sz)
theorem ddv_fmD : Fm 64 fD := .inr ⟨rfl, rfl⟩
theorem ddv_hd : hdF fD = 4503599627370496 := by decide
theorem ddv_sg : fD.sg = 9223372036854775808 := rfl
theorem ddv_INF : INF = 9218868437227405312 := by decide
theorem ddv_mg (s : Nat) : nF fD s = mg s := by
 unfold nF mgF dF mg
 rw [ddv_hd]
 by_cases c : s < 2^52
 ·have e : s / 4503599627370496 = 0 := by omega
  rw [if_pos c, e, if_pos rfl, show s % 4503599627370496 = s by omega]
  simp
 ·rw [if_neg c, if_neg (by omega)]
theorem ddv_szlt (x : Nat) : sz x < fD.sg := Nat.mod_lt _ (by decide)
theorem ddv_pat {x : Nat} (h : x < 18446744073709551616) : pat fD (ng x) (sz x) = x := by
 unfold pat ng sz
 rw [ddv_sg]
 by_cases c : (x / 2^63 % 2 == 1) = true
 ·rw [if_pos c]
  have := beq_iff_eq.1 c
  omega
 ·rw [if_neg c]
  have : ¬ x / 2^63 % 2 = 1 := fun e => c (beq_iff_eq.2 e)
  omega
theorem ddv_sv (x : Nat) : U x = sv (ng x) (nF fD (sz x)) := by unfold U sv; rw [ddv_mg]
theorem ddv_fin {x : Nat} (h : fin x) : sz x < fD.inf := by
 have : sz x < INF := h
 rw [ddv_INF] at this; exact this
theorem ddv_bl {s : Nat} (hs : s < fD.sg) : bl (nF fD s) ≤ 2101 := by
 have := dF_le ddv_fmD hs
 by_cases c : mgF fD s = 0
 ·unfold nF; rw [c, Nat.zero_mul]; decide
 ·unfold nF
  rw [bl_mul _ _ c]
  have : bl (mgF fD s) ≤ 53 := bl_le_of_lt (mg_lt ddv_fmD s)
  omega
theorem ddv_blU (x : Nat) : bl (U x).natAbs ≤ 2101 := by rw [ddv_sv, sv_abs]; exact ddv_bl (ddv_szlt x)
theorem ddv_val {x : Nat} (hx : x < 18446744073709551616) (h : fin x) : ∃ n m y, Dy (-1074) n m y (U x) ∧ Ev (fun k => binary_Value.f k 64 ((x : Nat) : Int)) (n, lb m, y, 0) := by
 obtain ⟨n, m, y, d, e⟩ := value_pat ddv_fmD (ng x) (ddv_fin h) (E := -1074) (by decide) (by decide)
 rw [ddv_pat hx] at e
 refine ⟨n, m, y, ?_, e⟩
 rw [ddv_sv]
 have : (fD.low - -1074).toNat = 0 := by decide
 rw [this, Nat.pow_zero, Nat.mul_one] at d
 exact d
theorem ev_of {α : Type} {o : Option α} {v : α} (h : o = some v) : Ev (fun _ => o) v := by rw [h]; exact Ev.now _
def FormP (x y : Nat) : Prop := fin x ∧ fin y ∧ U x = rnI 0 (U x + U y)
theorem abs_f {x : Nat} (hx : x < 18446744073709551616) : math_Abs.f x = some (sz x) := by
 unfold math_Abs.f
 rw [andNot_sz hx, Int.toNat_natCast]
theorem finite_f {x : Nat} (hx : x < 18446744073709551616) : dd_finite.f x = some (decide (sz x < 9218868437227405312)) := by
 unfold dd_finite.f
 rw [abs_f hx, Option.bind_some]
 have h := le_abs (s := sz x) (c := 9218868437227405311) (Nat.mod_lt _ (by decide)) (by decide)
 refine congrArg some (h.trans (decide_eq_decide.2 ⟨fun q => by omega, fun q => by omega⟩))
theorem fin_iff (x : Nat) : fin x ↔ sz x < 9218868437227405312 := by unfold fin; rw [ddv_INF]
theorem isn_val {v : Int} {r : Nat} (h : Isn 0 v r) (hr : fin r) : U r = rnI 0 v := by
 have hs : sz r = rung 0 v.natAbs := by have := h.size; have hr' : sz r < INF := hr; omega
 have m := mg_rung 0 v.natAbs
 rw [Nat.pow_zero, Nat.mul_one, ← hs] at m
 by_cases h0 : v = 0
 ·subst h0
  have z : sz r = 0 := by rw [hs]; exact rung_zero 0
  have u := U_natAbs r
  rw [z] at u
  have e : mg 0 = 0 := rfl
  have q := rnI_natAbs 0 0
  rw [show (0 : Int).natAbs = 0 from rfl] at m q
  rw [z, e] at m
  omega
 ·have n := h.sign h0
  have u : U r = if ng r = true then -((mg (sz r) : Nat) : Int) else ((mg (sz r) : Nat) : Int) := rfl
  rw [u, n, m]
  unfold rnI
  by_cases c : v < 0
  ·rw [decide_eq_true c, if_pos rfl, if_pos c]
  ·rw [decide_eq_false c, if_neg (by decide), if_neg c]
theorem order_inf {r x : Nat} (h : sz r = INF) (hx : fin x) : (double.order r x == some .eq) = false := by
 obtain ⟨m, i, hx1, _, _⟩ := read_fin hx
 unfold Format.order
 rw [read_inf h, hx1]
 show (some (if ng r then Ordering.lt else Ordering.gt) == some Ordering.eq) = false
 cases ng r <;> rfl
theorem form_f {x y : Nat} (hx : x < 18446744073709551616) (hy : y < 18446744073709551616) : (FormP x y ∧ dd_Form.f x y = some true) ∨ (¬ FormP x y ∧ dd_Form.f x y = some false) := by
 unfold dd_Form.f
 rw [finite_f hx, Option.bind_some]
 by_cases f1 : fin x
 rotate_left
 ·refine .inr ⟨fun h => f1 h.1, ?_⟩
  rw [decide_eq_false (fun h => f1 ((fin_iff x).2 h))]
  rfl
 rw [decide_eq_true ((fin_iff x).1 f1), if_pos rfl, finite_f hy, Option.bind_some]
 by_cases f2 : fin y
 rotate_left
 ·refine .inr ⟨fun h => f2 h.2.1, ?_⟩
  rw [decide_eq_false (fun h => f2 ((fin_iff y).2 h))]
  rfl
 rw [decide_eq_true ((fin_iff y).1 f2), if_pos rfl]
 obtain ⟨r, e, i⟩ := add_isn f1 f2
 rw [show FloatKind.f64.format.add x y = some r from e, Option.bind_some]
 by_cases c : sz r < INF
 ·have u := isn_val i c
  rw [show (FloatKind.f64.format.order r x == some .eq) = decide (U r = U x) from eq_fin c f1, u]
  by_cases q : U x = rnI 0 (U x + U y)
  ·exact .inl ⟨⟨f1, f2, q⟩, by rw [decide_eq_true q.symm]⟩
  ·exact .inr ⟨fun h => q h.2.2, by rw [decide_eq_false (fun h => q h.symm)]⟩
 ·have z : sz r = INF := by have := i.size; omega
  refine .inr ⟨fun h => ?_, by rw [show (FloatKind.f64.format.order r x == some .eq) = false from order_inf z f1]⟩
  have q := rnI_natAbs 0 (U x + U y)
  rw [← h.2.2, U_natAbs] at q
  have m := mg_rung 0 (U x + U y).natAbs
  rw [Nat.pow_zero, Nat.mul_one, ← q] at m
  have a : INF ≤ rung 0 (U x + U y).natAbs := by have := i.size; omega
  have b := mg_le a
  rw [m] at b
  have c2 := Fl.mg_lt (show sz x < INF from f1)
  omega
theorem value_f {x y : Nat} (hx : x < 18446744073709551616) (hy : y < 18446744073709551616) (F : FormP x y) : ∃ n m z, Dy (-1074) n m z (V x y) ∧ Ev (fun k => dd_Value.f k x y) (n, lb m, z, 0) := by
 obtain ⟨n1, m1, z1, d1, e1⟩ := ddv_val hx F.1
 obtain ⟨n2, m2, z2, d2, e2⟩ := ddv_val hy F.2.1
 obtain ⟨n, m, z, d, e⟩ := add_dy d1 d2 (by decide) (by decide) (Nat.le_trans (ddv_blU x) (by decide)) (Nat.le_trans (ddv_blU y) (by decide))
 refine ⟨n, m, z, d, ?_⟩
 unfold dd_Value.f
 have ff := ((form_f hx hy).resolve_right fun h => h.1 F).2
 exact Ev.bind (ev_of ff) (Ev.congr (fun k => if_pos rfl) (Ev.bind e1 (Ev.bind e2 (Ev.bind e (Ev.now _)))))
theorem value_no {x y : Nat} (hx : x < 18446744073709551616) (hy : y < 18446744073709551616) (F : ¬ FormP x y) : Ev (fun k => dd_Value.f k x y) (false, [], 0, 2) := by
 unfold dd_Value.f
 have ff := ((form_f hx hy).resolve_left fun h => F h.1).2
 exact Ev.bind (ev_of ff) (Ev.congr (fun k => if_neg (by decide)) (Ev.now _))
theorem neg_w {x : Nat} (hx : x < 18446744073709551616) : Op.negFloat .f64 x < 18446744073709551616 ∧ sz (Op.negFloat .f64 x) = sz x ∧ ng (Op.negFloat .f64 x) = !ng x := by
 have e : Op.negFloat .f64 x = x ^^^ 2^63 := rfl
 rw [e]
 have h1 : (x ^^^ 2^63) % 2^63 = x % 2^63 := by
  rw [Nat.xor_mod_two_pow]
  simp
 have h2 : (x ^^^ 2^63) / 2^63 = (x / 2^63) ^^^ 1 := by
  rw [← Nat.shiftRight_eq_div_pow, Nat.shiftRight_xor_distrib, Nat.shiftRight_eq_div_pow, Nat.shiftRight_eq_div_pow, Nat.div_self (by decide)]
 have h3 : x ^^^ 2^63 < 2^64 := Nat.xor_lt_two_pow (by omega) (by decide)
 refine ⟨h3, h1, ?_⟩
 unfold ng
 rw [h2]
 have q : x / 2^63 = 0 ∨ x / 2^63 = 1 := by omega
 rcases q with q | q <;> rw [q] <;> rfl
theorem neg_U {x : Nat} (hx : x < 18446744073709551616) : U (Op.negFloat .f64 x) = - U x := by
 obtain ⟨_, h2, h3⟩ := neg_w hx
 unfold U
 rw [h2, h3]
 cases ng x <;> simp
theorem neg_form {x y : Nat} (hx : x < 18446744073709551616) (hy : y < 18446744073709551616) : FormP (Op.negFloat .f64 x) (Op.negFloat .f64 y) ↔ FormP x y := by
 have a := neg_w hx
 have b := neg_w hy
 unfold FormP fin
 rw [a.2.1, b.2.1, neg_U hx, neg_U hy, show -U x + -U y = -(U x + U y) by omega, rnI_neg]
 constructor
 ·rintro ⟨h1, h2, h3⟩; exact ⟨h1, h2, by omega⟩
 ·rintro ⟨h1, h2, h3⟩; exact ⟨h1, h2, by omega⟩
theorem neg_V {x y : Nat} (hx : x < 18446744073709551616) (hy : y < 18446744073709551616) : V (Op.negFloat .f64 x) (Op.negFloat .f64 y) = - V x y := by
 unfold V; rw [neg_U hx, neg_U hy]; omega
theorem rnI_mono {g : Nat} {v w : Int} (h : v < w) : rnI g v ≤ rnI g w := by
 have a := rnI_near (g := g) (v := v) (rnI_isF g w)
 have b := rnI_near (g := g) (v := w) (rnI_isF g v)
 omega
theorem hi_order {x y x' y' : Nat} (F : FormP x y) (F' : FormP x' y') : (U x < U x' → V x y < V x' y') ∧ (U x = U x' → V x' y' - V x y = U y' - U y) := by
 constructor
 ·intro h
  refine Int.lt_of_not_ge fun c => ?_
  rcases Int.lt_or_eq_of_le c with q | q
  ·have := rnI_mono (g := 0) q
   have a := F.2.2
   have b := F'.2.2
   unfold V at this
   omega
  ·have a := F.2.2
   have b := F'.2.2
   unfold V at q
   rw [q] at b
   omega
 ·intro h; unfold V; omega
theorem cmp_f {x y x' y' : Nat} (hx : x < 18446744073709551616) (hy : y < 18446744073709551616) (hx' : x' < 18446744073709551616) (hy' : y' < 18446744073709551616) (F : FormP x y) (F' : FormP x' y') : dd_Cmp.f x y x' y' = some (cmZ (V x y) (V x' y')) := by
 unfold dd_Cmp.f
 have f1 := ((form_f hx hy).resolve_right fun h => h.1 F).2
 have f2 := ((form_f hx' hy').resolve_right fun h => h.1 F').2
 rw [f1, Option.bind_some, if_pos rfl, f2, Option.bind_some, if_pos rfl]
 rw [show FloatKind.f64.format.order x x' = some (compareOfLessAndEq (U x) (U x')) from ord_fin F.1 F'.1, show FloatKind.f64.format.order y y' = some (compareOfLessAndEq (U y) (U y')) from ord_fin F.2.1 F'.2.1]
 obtain ⟨o1, o2⟩ := hi_order F F'
 obtain ⟨o3, o4⟩ := hi_order F' F
 unfold cmZ
 rcases Int.lt_trichotomy (U x) (U x') with h | h | h
 ·rw [coe_lt h, if_pos rfl, if_pos (o1 h)]
 ·have e := o2 h
  rw [coe_eq h, if_neg (by simp), if_pos rfl]
  rcases Int.lt_trichotomy (U y) (U y') with q | q | q
  ·rw [coe_lt q, if_pos rfl, if_pos (by omega)]
  ·rw [coe_eq q, if_neg (by simp), if_neg (by simp), if_neg (by simp), if_neg (by omega), if_neg (by omega)]
  ·rw [coe_gt q, if_neg (by simp), if_neg (by simp), if_pos rfl, if_neg (by omega), if_pos (by omega)]
 ·have e := o3 h
  rw [coe_gt h, if_neg (by simp), if_neg (by simp), if_pos rfl, if_neg (by omega), if_pos e]
theorem cmp_no {x y x' y' : Nat} (hx : x < 18446744073709551616) (hy : y < 18446744073709551616) (hx' : x' < 18446744073709551616) (hy' : y' < 18446744073709551616) (h : ¬ (FormP x y ∧ FormP x' y')) : dd_Cmp.f x y x' y' = some 0 := by
 unfold dd_Cmp.f
 rcases form_f hx hy with ⟨F, f1⟩ | ⟨F, f1⟩
 ·have f2 := ((form_f hx' hy').resolve_left fun q => h ⟨F, q.1⟩).2
  rw [f1, Option.bind_some, if_pos rfl, f2]
  rfl
 ·rw [f1]; rfl
end Go.Proofs.YtapikmfckpgjoaaGreatDoor.DdV
