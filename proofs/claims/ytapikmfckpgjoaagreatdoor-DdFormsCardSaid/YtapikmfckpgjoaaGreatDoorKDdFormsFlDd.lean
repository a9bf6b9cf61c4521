/- The float operations of the walk: what an operation on binary64 words gives is the valid result, or some NaN where there is none. No condition. Contracts of TwoSum, FastTwoSum, Split and TwoProd, and of the statements' own calls of them, for any words: each step is a float operation of the model. No condition. What TwoSum, FastTwoSum, Split and TwoProd answer, in whole numbers of units: the rounded sum (product), and just what is missing. Conditions: the document's bounds on the numbers. What Split and TwoProd answer, in whole numbers of units: a cut in two, the rounded product, and just what is missing. Conditions: the document's bounds on the numbers. Double-doubles in whole numbers: the quick sum, sums, products and quotients, their errors; the quotient of two floats. Plain Lean; no program in sight. No condition. -/
import Derived.Test.YtapikmfckpgjoaaGreatDoorKDdFormsFl
import Derived.WalkKit
import Derived.WalkLawsBesides
import Derived.Laws.Externs
import Derived.Deep.Draws
import Derived.Test.YtapikmfckpgjoaaGreatDoorProg
section
namespace Go.Proofs.YtapikmfckpgjoaaGreatDoor.FW
open Go.RowKit
structure Drew (w w' : World) : Prop where mk :: (out : ∃ n, w' = w.drewN n)
theorem Drew.refl (w : World) : Drew w w := ⟨⟨0, rfl⟩⟩
theorem Drew.trans {w w1 w2 : World} (h : Drew w w1) (k : Drew w1 w2) : Drew w w2 := by
 obtain ⟨n, rfl⟩ := h.out
 obtain ⟨m, rfl⟩ := k.out
 exact ⟨⟨n + m, World.drewN_drewN ..⟩⟩
theorem Drew.below {w w' : World} (h : Drew w w') : Below w.heap.size w w' := by
 obtain ⟨n, rfl⟩ := h.out
 have core : ∀ n, Below w.heap.size w (w.drewN n) := by
  intro n
  induction n with
  | zero => exact Below.refl _ _
  | succ n ih => rw [← World.drew_drewN]; exact ih.drew
 exact core n
structure FOp (op : BinOp) (x y r : Nat) : Prop where mk :: (lt : r < 18446744073709551616) (val : ∀ v, floatBits op .f64 x y = some v → r = v) (nan : floatBits op .f64 x y = none → 9218868437227405312 < r % 9223372036854775808)
theorem nan_cut (x y t : Nat) : (Question.nanBits .f64 x y).cut t < 18446744073709551616 ∧ 9218868437227405312 < (Question.nanBits .f64 x y).cut t % 9223372036854775808 := by
 show (t % 2) * 2 ^ 63 + 0x7ff0000000000000 + 1 + (t / 2) % (2 ^ 52 - 1) < _ ∧ _ < ((t % 2) * 2 ^ 63 + 0x7ff0000000000000 + 1 + (t / 2) % (2 ^ 52 - 1)) % _
 have h1 := Nat.mod_lt t (show 0 < 2 by decide)
 have h2 := Nat.mod_lt (t / 2) (show 0 < 2 ^ 52 - 1 by decide)
 generalize t / 2 % (2 ^ 52 - 1) = m at *
 generalize t % 2 = s at *
 omega
theorem run_fop {P : Program} (op : BinOp) (t : TypeId) (x y : Nat) (w : World) (h : op = .add ∨ op = .sub ∨ op = .mul ∨ op = .quo) :
  ∃ r w', (binOp op t (.float .f64 x) (.float .f64 y)).run P w = .ok (.float .f64 r) w' ∧ FOp op x y r ∧ Drew w w' := by
 have hf : (Question.nanBits FloatKind.f64 x y).forced = false := rfl
 rcases hb : floatBits op FloatKind.f64 x y with _ | r
 ·refine ⟨(Question.nanBits .f64 x y).cut (w.tape w.drawn (.nanBits .f64 x y)), w.drew, ?_, ⟨(nan_cut _ _ _).1, fun v hv => by (rw [hb] at hv; cases hv), fun _ => (nan_cut _ _ _).2⟩, ⟨⟨1, rfl⟩⟩⟩
  rcases h with rfl | rfl | rfl | rfl
  all_goals
   unfold floatBits at hb
   simp [binOp, Op.floatArith, hb, hf]
 ·refine ⟨r, w, run_float_arith w op t .f64 x y r hb, ⟨?_, fun v hv => by (rw [hb] at hv; injection hv), fun hn => by (rw [hb] at hn; cases hn)⟩, Drew.refl w⟩
  have := floatBits_wf hb
  simpa [Lit.wf] using this
section
variable {P : Program} {ops : Array Oper} {rest : List Oper} {o : Oper} {a : Act} {Q : Exit → Act → World → Prop} {w : World}
theorem wpList_fop (op : BinOp) (hop : op = .add ∨ op = .sub ∨ op = .mul ∨ op = .quo) (hgd : o.guard = none) {t ty : TypeId} {xo yo : Operand} (ho : o.op = .binOp op t xo yo ty) {X Y : Nat} (hx : a.eval xo = .float .f64 X) (hy : a.eval yo = .float .f64 Y)
  (h : ∀ r w1, FOp op X Y r → Drew w w1 → wpList P ops Q rest (a.put o.dst (.float .f64 r)) w1) : wpList P ops Q (o :: rest) a w := by
 obtain ⟨r, w1, hr, h1, h2⟩ := run_fop (P := P) op t X Y w hop
 refine wpList_plain hgd fun K hK => ?_
 unfold Oper.wp
 have hg : (eqGuard op t xo yo (.float .f64 X) (.float .f64 Y)).run P w = .ok () w := by
  rcases hop with rfl | rfl | rfl | rfl <;> rfl
 simp [execOp, ho, hx, hy, hg, hr, Result.andThen]
 exact hK _ _ (h r w1 h1 h2)
end
end Go.Proofs.YtapikmfckpgjoaaGreatDoor.FW
end
section
namespace Go.Proofs.YtapikmfckpgjoaaGreatDoor.Eft
open Go.RowKit Go.Proofs.YtapikmfckpgjoaaGreatDoor.FW
def TwoSumR (a b s e : Nat) : Prop := ∃ bb aa t1 t2, FOp .add a b s ∧ FOp .sub s a bb ∧ FOp .sub s bb aa ∧ FOp .sub a aa t1 ∧ FOp .sub b bb t2 ∧ FOp .add t1 t2 e
def FastR (a b s e : Nat) : Prop := ∃ z, FOp .add a b s ∧ FOp .sub s a z ∧ FOp .sub b z e
def Two (R : Nat → Nat → Prop) (w : World) (e : Ending) (w' : World) : Prop := ∃ s t, e = .returned (.tuple #[.float .f64 s, .float .f64 t]) ∧ R s t ∧ Drew w w'
set_option maxHeartbeats 1000000 in
theorem fast_any (a b : Nat) (w : World) : Calls Tryz.prog 68 #[.float .f64 a, .float .f64 b] w (Two (FastR a b) w) := by
 have tok1 : True := trivial
 have tok2 : True := trivial
 have tok3 : True := trivial
 go_enter Tryz.func68, Tryz.ntmps68
 go_wp2_with (first | (have _t := tok1; refine wpList_fop .add (by simp) rfl rfl rfl rfl ?_; intro r1 w1 h1 d1; clear tok1) | (have _t := tok2; refine wpList_fop .sub (by simp) rfl rfl rfl rfl ?_; intro r2 w2 h2 d2; clear tok2) | (have _t := tok3; refine wpList_fop .sub (by simp) rfl rfl rfl rfl ?_; intro r3 w3 h3 d3; clear tok3))
 go_ret2
 exact ⟨_, _, rfl, ⟨_, h1, h2, h3⟩, ((d1).trans d2).trans d3⟩
theorem TwoSumR.lt {a b s e : Nat} (h : TwoSumR a b s e) : s < 18446744073709551616 ∧ e < 18446744073709551616 := by
 obtain ⟨_, _, _, _, h1, _, _, _, _, h6⟩ := h
 exact ⟨h1.lt, h6.lt⟩
theorem FastR.lt {a b s e : Nat} (h : FastR a b s e) : s < 18446744073709551616 ∧ e < 18446744073709551616 := by
 obtain ⟨_, h1, _, h3⟩ := h
 exact ⟨h1.lt, h3.lt⟩
end Go.Proofs.YtapikmfckpgjoaaGreatDoor.Eft
end
section
namespace Go.Proofs.YtapikmfckpgjoaaGreatDoor.EftLaw
open Go.Proofs.YtapikmfckpgjoaaGreatDoor.FW Go.Proofs.YtapikmfckpgjoaaGreatDoor.Eft Fl
noncomputable def T0 : Nat := 2^TE
theorem top_T : top 0 = (2^53 - 1) * T0 := rfl
theorem mg_top (k : Nat) : mg ((k + 1) * 2^52) = 2^52 * 2^k := by
 have := mg_make (k := k) (m := 2^52) (by decide) (Or.inr (Nat.le_refl _))
 have e : (k + 1) * 2^52 = k * 2^52 + 2^52 := by omega
 rw [e]; exact this
theorem fop_add {x y r : Nat} (h : FOp .add x y r) (hx : fin x) (hy : fin y) (hm : (U x + U y).natAbs ≤ top 0) : Is 0 (U x + U y) r := by
 obtain ⟨v, hv, hi⟩ := add_fin hx hy hm
 rw [h.val v hv]; exact hi
theorem fop_sub {x y r : Nat} (h : FOp .sub x y r) (hx : fin x) (hy : fin y) (hm : (U x - U y).natAbs ≤ top 0) : Is 0 (U x - U y) r := by
 obtain ⟨v, hv, hi⟩ := sub_fin hx hy hm
 rw [h.val v hv]; exact hi
theorem val0 {v : Int} {r : Nat} (h : Is 0 v r) : U r = rnI 0 v := by
 have := h.val; rw [Int.pow_zero, Int.mul_one] at this; exact this
theorem isF_T (m : Nat) (hm : m ≤ 2^53) : isF 0 ((m * T0 : Nat) : Int) := by
 refine ⟨TE, Nat.zero_le _, ?_, ?_⟩
 ·rw [natAbs_dvd', Int.natAbs_natCast]; exact Nat.dvd_mul_left _ _
 ·rw [Int.natAbs_natCast]; exact Nat.mul_le_mul_right _ hm
end Go.Proofs.YtapikmfckpgjoaaGreatDoor.EftLaw
end
section
namespace Go.Proofs.YtapikmfckpgjoaaGreatDoor.EftLaw
open Go.Proofs.YtapikmfckpgjoaaGreatDoor.FW Go.Proofs.YtapikmfckpgjoaaGreatDoor.Eft Fl
theorem le_top0 {v : Int} {m : Nat} (h : v.natAbs ≤ m * T0) (hm : m ≤ 2^53 - 1) : v.natAbs ≤ top 0 := by
 rw [top_T]; exact Nat.le_trans h (Nat.mul_le_mul_right _ hm)
theorem rn_le_T {v : Int} {m : Nat} (h : v.natAbs ≤ m * T0) (hm : m ≤ 2^53) : (rnI 0 v).natAbs ≤ m * T0 := rn_bound (isF_T m hm) h
end Go.Proofs.YtapikmfckpgjoaaGreatDoor.EftLaw
end
section
set_option linter.unusedVariables false
namespace Fl
theorem ke_le_of {g j : Nat} {v : Int} (hg : g ≤ j) (h : (v.natAbs : Int) < 2^53 * 2^j) : ke g v ≤ j := by
 by_cases hk : ke g v = g
 ·omega
 ·have h1 := ke_le hk
  by_cases hc : ke g v ≤ j
  ·exact hc
  ·have := pow_lt_of (show j < ke g v by omega)
   omega
theorem rnI_of_dvd {g : Nat} {v : Int} (h : (2:Int)^(ke g v) ∣ v) : rnI g v = v := by
 rw [natAbs_dvd'] at h
 have : rn g v.natAbs = v.natAbs := rhe_exact h
 unfold rnI
 rw [this]
 split <;> omega
theorem ke_rn (g : Nat) (v : Int) : ke g v ≤ ke g (rnI g v) := by
 by_cases hk : ke g v = g
 ·have := ke_ge g (rnI g v); omega
 ·have h1 := ke_le hk
  have h4 : rhe v.natAbs (kx g v.natAbs) ≥ 2^52 := rhe_lo (by unfold ke at h1; exact_mod_cast h1)
  have h5 : 2^52 * 2^(ke g v) ≤ (rnI g v).natAbs := by
   rw [rnI_natAbs]
   exact Nat.mul_le_mul_right _ h4
  have h6 : 2^52 * (2:Int)^(ke g v) ≤ (rnI g v).natAbs := by exact_mod_cast h5
  have h7 := ke_lt g (rnI g v)
  by_cases hc : ke g v ≤ ke g (rnI g v)
  ·exact hc
  ·have := pow_lt_of (show ke g (rnI g v) < ke g v by omega)
   omega
theorem rel0 {g : Nat} {v : Int} (h : (2:Int)^g ∣ v) : 2^53 * ((rnI g v - v).natAbs : Int) ≤ v.natAbs := by
 by_cases hk : ke g v = g
 ·rw [rnI_of_dvd (by rw [hk]; exact h)]
  omega
 ·have h1 := ke_le hk
  have h2 := rnI_err g v
  omega
theorem dvd0 (v : Int) : (2:Int)^0 ∣ v := by rw [Int.pow_zero]; exact Int.one_dvd _
def Fst (g : Nat) (a b : Int) : Prop := a = 0 ∨ b.natAbs ≤ a.natAbs ∨ (2:Int)^(ke g b) ∣ a
theorem fast_any {g : Nat} {a b : Int} (ha : isF g a) (hb : isF g b) (h : Fst g a b) :
  rnI g (rnI g (a + b) - a) = rnI g (a + b) - a ∧ rnI g (b - (rnI g (a + b) - a)) = a + b - rnI g (a + b) := by
 by_cases hle : b.natAbs ≤ a.natAbs
 ·exact fast_sum ha hb (Or.inr hle)
 rcases h with h | h | hd
 ·exact fast_sum ha hb (Or.inl h)
 ·exact absurd h hle
 have hdb := isF_dvd hb
 have hB := ke_lt g b
 have hP := ipw (ke g b)
 have hs : (2:Int)^(ke g b) ∣ a + b := Int.dvd_add hd hdb
 by_cases hx : ((a + b).natAbs : Int) ≤ 2^53 * 2^(ke g b)
 ·have e := rnI_exact (isF_of (ke g b) (ke_ge g b) hs hx)
  rw [e]
  have e1 : a + b - a = b := by omega
  have e2 : a + b - (a + b) = 0 := by omega
  rw [e1, e2, Int.sub_self]
  exact ⟨rnI_exact hb, rnI_exact (isF_zero g)⟩
 ·have hr := rn_dvd_of (g := g) hs
  have hk : ke g (a + b) ≤ ke g b + 1 := by
   refine ke_le_of (by have := ke_ge g b; omega) ?_
   rw [Int.pow_succ]; omega
  have he := rnI_err g (a + b)
  have hE := pow_le_of hk
  rw [Int.pow_succ] at hE
  have hbb : (b.natAbs : Int) + 2^(ke g b) ≤ 2^53 * 2^(ke g b) := by
   apply mul_apart hP _ (Int.dvd_mul_left _ _) hB
   rw [natAbs_dvd'] at hdb
   exact_mod_cast hdb
  have f1 : isF g (rnI g (a + b) - a) := isF_of (ke g b) (ke_ge g b) (Int.dvd_sub hr hd) (by omega)
  refine ⟨rnI_exact f1, ?_⟩
  have e : b - (rnI g (a + b) - a) = a + b - rnI g (a + b) := by omega
  rw [e]
  exact rnI_exact (isF_of (ke g b) (ke_ge g b) (Int.dvd_sub hs hr) (by omega))
theorem abs_add3 (a b : Int) : (a + b).natAbs ≤ a.natAbs + b.natAbs := Int.natAbs_add_le a b
theorem tri (a b : Int) : a.natAbs ≤ b.natAbs + (a - b).natAbs := by omega
theorem tri' (a b : Int) : b.natAbs ≤ a.natAbs + (a - b).natAbs := by omega
theorem asc (a b : Int) : (a - b).natAbs = (b - a).natAbs := by omega
theorem adda (a b : Int) : a.natAbs ≤ (a + b).natAbs + b.natAbs := by omega
theorem rel0n {g : Nat} {v : Int} (h : (2:Int)^g ∣ v) : 2^53 * (rnI g v - v).natAbs ≤ v.natAbs := by
 have := rel0 h; omega
theorem sum_lo (xh xl yh yl : Int) : (xh + yh).natAbs ≤ (xh + xl + (yh + yl)).natAbs + (xl + yl).natAbs := by omega
theorem add_far {a X Y xl yl t tl th sl p d1 c sh q vl r d2 S d w vh : Nat}
  (hm : X + Y ≤ 3 * a) (hxl : 2^53 * xl ≤ X + xl) (hyl : 2^53 * yl ≤ Y + yl) (ht : t ≤ xl + yl) (htl : 2^53 * tl ≤ t) (hth : th ≤ t + tl)
  (hsl : 2^53 * sl ≤ a) (hp : p ≤ sl + th) (hd1 : 2^53 * d1 ≤ p) (hc : c ≤ p + d1) (hsh : sh ≤ a + sl) (hsh' : a ≤ sh + sl) (hq : q ≤ sh + c) (hq' : sh ≤ q + c)
  (hvl : 2^53 * vl ≤ q) (hr : r ≤ tl + vl) (hd2 : 2^53 * d2 ≤ r) (hS : a ≤ S + t) (hd : d ≤ d1 + d2) (hw : w ≤ r + d2) (hvh : q ≤ vh + vl) :
  c ≤ sh ∧ w ≤ vh ∧ 2^103 * d ≤ S := by
 have k1 : 16 * (2^53 * t) ≤ 49 * a := by omega
 have k2 : 2^53 * (16 * tl) ≤ a := by omega
 have k3 : 2^53 * (16 * p) ≤ 66 * a := by omega
 have k4 : 2^53 * (2^53 * (16 * d1)) ≤ 66 * a := by omega
 have k5 : 16 * q ≤ 17 * a := by omega
 have k6 : 2^53 * (16 * vl) ≤ 17 * a := by omega
 have k7 : 2^53 * (16 * r) ≤ 18 * a := by omega
 have k8 : 2^53 * (2^53 * (16 * d2)) ≤ 18 * a := by omega
 have k9 : 16 * a ≤ 17 * S := by omega
 refine ⟨by omega, by omega, by omega⟩
theorem low_rel {xh xl : Int} (h : xh = rnI 0 (xh + xl)) : 2^53 * xl.natAbs ≤ xh.natAbs + xl.natAbs := by
 have r := rel0 (dvd0 (xh + xl))
 rw [← h] at r
 omega
theorem low_ke {xh xl : Int} (h : xh = rnI 0 (xh + xl)) : 2 * (xl.natAbs : Int) ≤ 2^(ke 0 xh) := by
 have r := rnI_err 0 (xh + xl)
 have k := ke_rn 0 (xh + xl)
 rw [← h] at r k
 have := pow_le_of k
 omega
structure AddIn (xh xl yh yl sh sl th tl c vh vl w zh zl : Int) : Prop where
 fxh : isF 0 xh
 fxl : isF 0 xl
 fyh : isF 0 yh
 fyl : isF 0 yl
 hx : xh = rnI 0 (xh + xl)
 hy : yh = rnI 0 (yh + yl)
 h1 : sh = rnI 0 (xh + yh)
 h2 : sl = xh + yh - sh
 h3 : th = rnI 0 (xl + yl)
 h4 : tl = xl + yl - th
 h5 : c = rnI 0 (sl + th)
 h6 : vh = rnI 0 (sh + c)
 h7 : Fst 0 sh c → vl = sh + c - vh
 h8 : w = rnI 0 (tl + vl)
 h9 : zh = rnI 0 (vh + w)
 h10 : Fst 0 vh w → zl = vh + w - zh
theorem far_first {a X Y xl yl t tl th sl p d1 c sh : Nat}
  (hm : X + Y ≤ 3 * a) (hxl : 2^53 * xl ≤ X + xl) (hyl : 2^53 * yl ≤ Y + yl) (ht : t ≤ xl + yl) (htl : 2^53 * tl ≤ t) (hth : th ≤ t + tl)
  (hsl : 2^53 * sl ≤ a) (hp : p ≤ sl + th) (hd1 : 2^53 * d1 ≤ p) (hc : c ≤ p + d1) (hsh' : a ≤ sh + sl) : c ≤ sh := by
 have k1 : 16 * (2^53 * t) ≤ 49 * a := by omega
 have k2 : 2^53 * (16 * tl) ≤ a := by omega
 have k3 : 2^53 * (16 * p) ≤ 66 * a := by omega
 omega
section
variable {xh xl yh yl sh sl th tl c vh vl w zh zl : Int}
theorem add_a (fxh : isF 0 xh) (fxl : isF 0 xl) (fyh : isF 0 yh) (fyl : isF 0 yl) (hx : xh = rnI 0 (xh + xl)) (hy : yh = rnI 0 (yh + yl))
  (h1 : sh = rnI 0 (xh + yh)) (h2 : sl = xh + yh - sh) (h3 : th = rnI 0 (xl + yl)) (h4 : tl = xl + yl - th) (h5 : c = rnI 0 (sl + th)) (h6 : vh = rnI 0 (sh + c))
  (h7 : Fst 0 sh c → vl = sh + c - vh) (h8 : w = rnI 0 (tl + vl)) (h10 : Fst 0 vh w → zl = vh + w - zh) (hA : xh.natAbs + yh.natAbs ≤ 3 * (xh + yh).natAbs) :
  Fst 0 sh c ∧ Fst 0 vh w ∧ 2^103 * (zh + zl - (xh + xl + (yh + yl))).natAbs ≤ (xh + xl + (yh + yl)).natAbs := by
 have r1 := rel0n (dvd0 (xh + yh))
 have r3 := rel0n (dvd0 (xl + yl))
 have r5 := rel0n (dvd0 (sl + th))
 have r6 := rel0n (dvd0 (sh + c))
 have r8 := rel0n (dvd0 (tl + vl))
 rw [← h1, asc, ← h2] at r1
 rw [← h3, asc, ← h4] at r3
 rw [← h5] at r5
 rw [← h6, asc] at r6
 rw [← h8] at r8
 have q2 := tri' (xl + yl) th
 rw [← h4] at q2
 have q6 := tri' (xh + yh) sh
 have q7 := tri (xh + yh) sh
 rw [← h2] at q6 q7
 have F1' := far_first hA (low_rel hx) (low_rel hy) (abs_add3 xl yl) r3 q2 r1 (abs_add3 sl th) r5 (tri c (sl + th)) q7
 have F1 : Fst 0 sh c := Or.inr (Or.inl F1')
 have e7 := h7 F1
 rw [← e7] at r6
 have q12 := tri (sh + c) vh
 rw [← e7] at q12
 obtain ⟨_, g2, g3⟩ := add_far hA (low_rel hx) (low_rel hy) (abs_add3 xl yl) r3 q2 r1 (abs_add3 sl th) r5 (tri c (sl + th)) q6 q7 (abs_add3 sh c) (adda sh c) r6 (abs_add3 tl vl) r8 (sum_lo xh xl yh yl) (Nat.le_refl ((c - (sl + th)).natAbs + (w - (tl + vl)).natAbs)) (tri w (tl + vl)) q12
 have F2 : Fst 0 vh w := Or.inr (Or.inl g2)
 have e10 := h10 F2
 refine ⟨F1, F2, ?_⟩
 have eq : zh + zl - (xh + xl + (yh + yl)) = (c - (sl + th)) + (w - (tl + vl)) := by
  clear hA r1 r3 r5 r6 r8 q2 q6 q7 q12 F1' g2 g3 h1 h3 h5 h6 h8 hx hy
  omega
 rw [eq]
 exact Nat.le_trans (Nat.mul_le_mul_left _ (abs_add3 _ _)) g3
theorem near_size (h1 : yh.natAbs ≤ xh.natAbs) (hA : ¬ xh.natAbs + yh.natAbs ≤ 3 * (xh + yh).natAbs) : xh.natAbs < 2 * yh.natAbs ∧ (xh + yh).natAbs ≤ yh.natAbs := by omega
theorem near_last {q r d vh' vl' tl' S w' : Nat} (a1 : 2^53 * vl' ≤ q) (a2 : 2^54 * tl' ≤ q) (a3 : r ≤ tl' + vl') (a4 : w' ≤ r + d) (a5 : q ≤ vh' + vl') (a6 : q ≤ S + tl') (a7 : 2^53 * d ≤ r) : w' ≤ vh' ∧ 2^103 * d ≤ S := by
 have b1 : 2^53 * (2 * r) ≤ 3 * q := by omega
 have b2 : 2^53 * (2^53 * (2 * d)) ≤ 3 * q := by omega
 have b3 : q ≤ 2 * S := by omega
 refine ⟨by omega, by omega⟩
theorem add_b (fxh : isF 0 xh) (fxl : isF 0 xl) (fyh : isF 0 yh) (fyl : isF 0 yl) (hx : xh = rnI 0 (xh + xl)) (hy : yh = rnI 0 (yh + yl))
  (h1 : sh = rnI 0 (xh + yh)) (h2 : sl = xh + yh - sh) (h3 : th = rnI 0 (xl + yl)) (h4 : tl = xl + yl - th) (h5 : c = rnI 0 (sl + th)) (h6 : vh = rnI 0 (sh + c))
  (h7 : Fst 0 sh c → vl = sh + c - vh) (h8 : w = rnI 0 (tl + vl)) (h10 : Fst 0 vh w → zl = vh + w - zh) (hle : yh.natAbs ≤ xh.natAbs) (hA : ¬ xh.natAbs + yh.natAbs ≤ 3 * (xh + yh).natAbs) :
  Fst 0 sh c ∧ Fst 0 vh w ∧ 2^103 * (zh + zl - (xh + xl + (yh + yl))).natAbs ≤ (xh + xl + (yh + yl)).natAbs := by
 obtain ⟨hlt, hsum⟩ := near_size hle hA
 clear hA
 have kY := ke_lt 0 yh
 have pY := ipw (ke 0 yh)
 have km := ke_mono (g := 0) hle
 have dY : (2:Int)^(ke 0 yh) ∣ xh + yh := Int.dvd_add (Int.dvd_trans (dvd_pow_le km) (isF_dvd fxh)) (isF_dvd fyh)
 have es : sh = xh + yh := by rw [h1]; exact rnI_exact (isF_of (ke 0 yh) (Nat.zero_le _) dY (by omega))
 have el : sl = 0 := by rw [h2, es]; exact Int.sub_self _
 have fth : isF 0 th := by rw [h3]; exact rnI_isF _ _
 have ec : c = th := by rw [h5, el, Int.zero_add]; exact rnI_exact fth
 subst ec
 clear h5
 have kx' : ke 0 xh ≤ ke 0 yh + 1 := ke_le_of (Nat.zero_le _) (by rw [Int.pow_succ]; omega)
 have lx2 := low_ke hx
 have ly2 := low_ke hy
 have px := pow_le_of kx'
 rw [Int.pow_succ] at px
 have r3 := rel0n (dvd0 (xl + yl))
 rw [← h3] at r3
 have ht : c.natAbs ≤ 2 * xl.natAbs + 2 * yl.natAbs := by
  have := tri c (xl + yl)
  have := abs_add3 xl yl
  omega
 have kt : ke 0 c ≤ ke 0 yh := ke_le_of (Nat.zero_le _) (by clear r3 hlt hsum kY; omega)
 have dG : (2:Int)^(ke 0 c) ∣ sh := by rw [es]; exact Int.dvd_trans (dvd_pow_le kt) dY
 have F1 : Fst 0 sh c := Or.inr (Or.inr dG)
 have e7 := h7 F1
 have ft := isF_dvd fth
 have dG2 : (2:Int)^(ke 0 c) ∣ sh + c := Int.dvd_add dG ft
 have pG := ipw (ke 0 c)
 have ltl : 2 * (tl.natAbs : Int) ≤ 2^(ke 0 c) := by
  have a1 := rnI_err 0 (xl + yl)
  have a2 := pow_le_of (ke_rn 0 (xl + yl))
  rw [← h3] at a1 a2
  rw [h4, asc]
  clear r3 ht lx2 ly2 px kY hlt hsum
  omega
 have ftl : isF 0 tl := by rw [h4, h3]; exact err_isF fxl fyl
 clear r3 ht lx2 ly2 px kY pY hlt hsum kx' kt km dY
 by_cases hB : ((sh + c).natAbs : Int) ≤ 2^53 * 2^(ke 0 c)
 ·have ev : vh = sh + c := by rw [h6]; exact rnI_exact (isF_of (ke 0 c) (Nat.zero_le _) dG2 hB)
  have evl : vl = 0 := by rw [e7, ev]; exact Int.sub_self _
  have ew : w = tl := by rw [h8, evl, Int.add_zero]; exact rnI_exact ftl
  have F2 : Fst 0 vh w := by
   by_cases h0 : vh = 0
   ·exact Or.inl h0
   ·refine Or.inr (Or.inl ?_)
    have : (2:Int)^(ke 0 c) ≤ vh.natAbs := by
     rw [← ev] at dG2
     rw [natAbs_dvd'] at dG2
     have := Nat.le_of_dvd (by omega) dG2
     exact_mod_cast this
    rw [ew]
    clear hB hle
    omega
  have e10 := h10 F2
  refine ⟨F1, F2, ?_⟩
  have eq : zh + zl - (xh + xl + (yh + yl)) = 0 := by rw [e10, ew, ev, es, h4]; clear hB hle ltl; omega
  rw [eq]
  exact Nat.zero_le _
 ·have r6 := rel0n (dvd0 (sh + c))
  have r8 := rel0n (dvd0 (tl + vl))
  rw [← h6, asc, ← e7] at r6
  rw [← h8] at r8
  have a2 : 2^54 * tl.natAbs ≤ (sh + c).natAbs := by clear r6 r8 hle; omega
  have a5 := tri (sh + c) vh
  rw [← e7] at a5
  have a6 : (sh + c).natAbs ≤ (xh + xl + (yh + yl)).natAbs + tl.natAbs := by
   have e : xh + xl + (yh + yl) = sh + c + tl := by rw [es, h4]; clear r6 r8 hle a2 a5 ltl hB; omega
   rw [e]
   exact adda _ _
  obtain ⟨g1, g2⟩ := near_last r6 a2 (abs_add3 tl vl) (tri w (tl + vl)) a5 a6 r8
  have F2 : Fst 0 vh w := Or.inr (Or.inl g1)
  have e10 := h10 F2
  refine ⟨F1, F2, ?_⟩
  have eq : zh + zl - (xh + xl + (yh + yl)) = w - (tl + vl) := by rw [e10, e7, es, h4]; clear r6 r8 hle a2 a5 a6 ltl hB g1 g2; omega
  rw [eq]
  exact g2
end
theorem add_core {xh xl yh yl sh sl th tl c vh vl w zh zl : Int} (A : AddIn xh xl yh yl sh sl th tl c vh vl w zh zl) (hle : yh.natAbs ≤ xh.natAbs) :
  Fst 0 sh c ∧ Fst 0 vh w ∧ 2^103 * (zh + zl - (xh + xl + (yh + yl))).natAbs ≤ (xh + xl + (yh + yl)).natAbs := by
 obtain ⟨fxh, fxl, fyh, fyl, hx, hy, h1, h2, h3, h4, h5, h6, h7, h8, h9, h10⟩ := A
 by_cases hA : xh.natAbs + yh.natAbs ≤ 3 * (xh + yh).natAbs
 ·exact add_a fxh fxl fyh fyl hx hy h1 h2 h3 h4 h5 h6 h7 h8 h10 hA
 ·exact add_b fxh fxl fyh fyl hx hy h1 h2 h3 h4 h5 h6 h7 h8 h10 hle hA
theorem add_dd {xh xl yh yl sh sl th tl c vh vl w zh zl : Int} (A : AddIn xh xl yh yl sh sl th tl c vh vl w zh zl) :
  Fst 0 sh c ∧ Fst 0 vh w ∧ 2^103 * (zh + zl - (xh + xl + (yh + yl))).natAbs ≤ (xh + xl + (yh + yl)).natAbs := by
 by_cases h : yh.natAbs ≤ xh.natAbs
 ·exact add_core A h
 ·obtain ⟨fxh, fxl, fyh, fyl, hx, hy, h1, h2, h3, h4, h5, h6, h7, h8, h9, h10⟩ := A
  have B : AddIn yh yl xh xl sh sl th tl c vh vl w zh zl := ⟨fyh, fyl, fxh, fxl, hy, hx, by rw [Int.add_comm]; exact h1, by rw [Int.add_comm]; exact h2, by rw [Int.add_comm]; exact h3, by rw [Int.add_comm yl]; exact h4, h5, h6, h7, h8, h9, h10⟩
  have := add_core B (by omega)
  rw [Int.add_comm (yh + yl)] at this
  exact this
end Fl
namespace Fl
theorem rn0 (g : Nat) : rnI g 0 = 0 := rnI_exact (isF_zero g)
end Fl
namespace Fl
open Ieee
theorem twice {a b : Nat} {v w : Int} (h : 2^54 * (v - w).natAbs ≤ w.natAbs) : v.natAbs ≤ 2 * w.natAbs := by omega
end Fl
end
