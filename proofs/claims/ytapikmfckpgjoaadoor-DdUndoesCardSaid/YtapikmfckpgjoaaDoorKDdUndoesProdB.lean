/- The float operations of the walk: what an operation on binary64 words gives is the valid result, or some NaN where there is none. No condition. Contracts of TwoSum, FastTwoSum, Split and TwoProd, and of the statements' own calls of them, for any words: each step is a float operation of the model. No condition. What TwoSum, FastTwoSum, Split and TwoProd answer, in whole numbers of units: the rounded sum (product), and just what is missing. Conditions: the document's bounds on the numbers. What Split and TwoProd answer, in whole numbers of units: a cut in two, the rounded product, and just what is missing. Conditions: the document's bounds on the numbers. What TwoProd answers: the rounded product, and just what is missing; and how little that is. Conditions: the document's bounds on the numbers. -/
import Derived.Test.YtapikmfckpgjoaaDoorKDdUndoesFl
import Derived.WalkKit
import Derived.WalkLawsBesides
import Derived.Laws.Externs
import Derived.Deep.Draws
import Derived.Test.YtapikmfckpgjoaaDoorProg
section
namespace Go.Proofs.YtapikmfckpgjoaaDoor.FW
open Go.RowKit
structure Drew (w w' : World) : Prop where mk :: (out : ∃ n, w' = w.drewN n)
theorem Drew.refl (w : World) : Drew w w := ⟨⟨0, rfl⟩⟩
theorem Drew.trans {w w1 w2 : World} (h : Drew w w1) (k : Drew w1 w2) : Drew w w2 := by
 obtain ⟨n, rfl⟩ := h.out
 obtain ⟨m, rfl⟩ := k.out
 exact ⟨⟨n + m, World.drewN_drewN ..⟩⟩
theorem Drew.below {w w' : World} (h : Drew w w') : Below w.heap.size w w' := by
 obtain ⟨n, rfl⟩ := h.out
 have core : ∀ n, Below w.heap.size w (w.drewN n) := by
  intro n
  induction n with
  | zero => exact Below.refl _ _
  | succ n ih => rw [← World.drew_drewN]; exact ih.drew
 exact core n
structure FOp (op : BinOp) (x y r : Nat) : Prop where mk :: (lt : r < 18446744073709551616) (val : ∀ v, floatBits op .f64 x y = some v → r = v) (nan : floatBits op .f64 x y = none → 9218868437227405312 < r % 9223372036854775808)
theorem nan_cut (x y t : Nat) : (Question.nanBits .f64 x y).cut t < 18446744073709551616 ∧ 9218868437227405312 < (Question.nanBits .f64 x y).cut t % 9223372036854775808 := by
 show (t % 2) * 2 ^ 63 + 0x7ff0000000000000 + 1 + (t / 2) % (2 ^ 52 - 1) < _ ∧ _ < ((t % 2) * 2 ^ 63 + 0x7ff0000000000000 + 1 + (t / 2) % (2 ^ 52 - 1)) % _
 have h1 := Nat.mod_lt t (show 0 < 2 by decide)
 have h2 := Nat.mod_lt (t / 2) (show 0 < 2 ^ 52 - 1 by decide)
 generalize t / 2 % (2 ^ 52 - 1) = m at *
 generalize t % 2 = s at *
 omega
theorem run_fop {P : Program} (op : BinOp) (t : TypeId) (x y : Nat) (w : World) (h : op = .add ∨ op = .sub ∨ op = .mul ∨ op = .quo) :
  ∃ r w', (binOp op t (.float .f64 x) (.float .f64 y)).run P w = .ok (.float .f64 r) w' ∧ FOp op x y r ∧ Drew w w' := by
 have hf : (Question.nanBits FloatKind.f64 x y).forced = false := rfl
 rcases hb : floatBits op FloatKind.f64 x y with _ | r
 ·refine ⟨(Question.nanBits .f64 x y).cut (w.tape w.drawn (.nanBits .f64 x y)), w.drew, ?_, ⟨(nan_cut _ _ _).1, fun v hv => by (rw [hb] at hv; cases hv), fun _ => (nan_cut _ _ _).2⟩, ⟨⟨1, rfl⟩⟩⟩
  rcases h with rfl | rfl | rfl | rfl
  all_goals
   unfold floatBits at hb
   simp [binOp, Op.floatArith, hb, hf]
 ·refine ⟨r, w, run_float_arith w op t .f64 x y r hb, ⟨?_, fun v hv => by (rw [hb] at hv; injection hv), fun hn => by (rw [hb] at hn; cases hn)⟩, Drew.refl w⟩
  have := floatBits_wf hb
  simpa [Lit.wf] using this
section
variable {P : Program} {ops : Array Oper} {rest : List Oper} {o : Oper} {a : Act} {Q : Exit → Act → World → Prop} {w : World}
theorem wpList_fop (op : BinOp) (hop : op = .add ∨ op = .sub ∨ op = .mul ∨ op = .quo) (hgd : o.guard = none) {t ty : TypeId} {xo yo : Operand} (ho : o.op = .binOp op t xo yo ty) {X Y : Nat} (hx : a.eval xo = .float .f64 X) (hy : a.eval yo = .float .f64 Y)
  (h : ∀ r w1, FOp op X Y r → Drew w w1 → wpList P ops Q rest (a.put o.dst (.float .f64 r)) w1) : wpList P ops Q (o :: rest) a w := by
 obtain ⟨r, w1, hr, h1, h2⟩ := run_fop (P := P) op t X Y w hop
 refine wpList_plain hgd fun K hK => ?_
 unfold Oper.wp
 have hg : (eqGuard op t xo yo (.float .f64 X) (.float .f64 Y)).run P w = .ok () w := by
  rcases hop with rfl | rfl | rfl | rfl <;> rfl
 simp [execOp, ho, hx, hy, hg, hr, Result.andThen]
 exact hK _ _ (h r w1 h1 h2)
end
end Go.Proofs.YtapikmfckpgjoaaDoor.FW
end
section
namespace Go.Proofs.YtapikmfckpgjoaaDoor.Eft
open Go.RowKit Go.Proofs.YtapikmfckpgjoaaDoor.FW
def TwoSumR (a b s e : Nat) : Prop := ∃ bb aa t1 t2, FOp .add a b s ∧ FOp .sub s a bb ∧ FOp .sub s bb aa ∧ FOp .sub a aa t1 ∧ FOp .sub b bb t2 ∧ FOp .add t1 t2 e
def FastR (a b s e : Nat) : Prop := ∃ z, FOp .add a b s ∧ FOp .sub s a z ∧ FOp .sub b z e
def SplitR (a h l : Nat) : Prop := ∃ c d, FOp .mul 4728779608772575232 a c ∧ FOp .sub c a d ∧ FOp .sub c d h ∧ FOp .sub a h l
def ProdR (a b p e : Nat) : Prop := ∃ ah al bh bl x1 e1 x2 e2 x3 e3 x4, FOp .mul a b p ∧ SplitR a ah al ∧ SplitR b bh bl ∧ FOp .mul ah bh x1 ∧ FOp .sub x1 p e1 ∧ FOp .mul ah bl x2 ∧ FOp .add e1 x2 e2 ∧ FOp .mul al bh x3 ∧ FOp .add e2 x3 e3 ∧ FOp .mul al bl x4 ∧ FOp .add e3 x4 e
def Two (R : Nat → Nat → Prop) (w : World) (e : Ending) (w' : World) : Prop := ∃ s t, e = .returned (.tuple #[.float .f64 s, .float .f64 t]) ∧ R s t ∧ Drew w w'
set_option maxHeartbeats 1000000 in
theorem fast_any (a b : Nat) (w : World) : Calls Tryd.prog 87 #[.float .f64 a, .float .f64 b] w (Two (FastR a b) w) := by
 have tok1 : True := trivial
 have tok2 : True := trivial
 have tok3 : True := trivial
 go_enter Tryd.func87, Tryd.ntmps87
 go_wp2_with (first | (have _t := tok1; refine wpList_fop .add (by simp) rfl rfl rfl rfl ?_; intro r1 w1 h1 d1; clear tok1) | (have _t := tok2; refine wpList_fop .sub (by simp) rfl rfl rfl rfl ?_; intro r2 w2 h2 d2; clear tok2) | (have _t := tok3; refine wpList_fop .sub (by simp) rfl rfl rfl rfl ?_; intro r3 w3 h3 d3; clear tok3))
 go_ret2
 exact ⟨_, _, rfl, ⟨_, h1, h2, h3⟩, ((d1).trans d2).trans d3⟩
theorem TwoSumR.lt {a b s e : Nat} (h : TwoSumR a b s e) : s < 18446744073709551616 ∧ e < 18446744073709551616 := by
 obtain ⟨_, _, _, _, h1, _, _, _, _, h6⟩ := h
 exact ⟨h1.lt, h6.lt⟩
theorem FastR.lt {a b s e : Nat} (h : FastR a b s e) : s < 18446744073709551616 ∧ e < 18446744073709551616 := by
 obtain ⟨_, h1, _, h3⟩ := h
 exact ⟨h1.lt, h3.lt⟩
theorem SplitR.lt {a s e : Nat} (h : SplitR a s e) : s < 18446744073709551616 ∧ e < 18446744073709551616 := by
 obtain ⟨_, _, _, _, h3, h4⟩ := h
 exact ⟨h3.lt, h4.lt⟩
theorem ProdR.lt {a b s e : Nat} (h : ProdR a b s e) : s < 18446744073709551616 ∧ e < 18446744073709551616 := by
 obtain ⟨_, _, _, _, _, _, _, _, _, _, _, h1, _, _, _, _, _, _, _, _, _, h6⟩ := h
 exact ⟨h1.lt, h6.lt⟩
end Go.Proofs.YtapikmfckpgjoaaDoor.Eft
end
section
namespace Go.Proofs.YtapikmfckpgjoaaDoor.EftLaw
open Go.Proofs.YtapikmfckpgjoaaDoor.FW Go.Proofs.YtapikmfckpgjoaaDoor.Eft Fl
noncomputable def T0 : Nat := 2^TE
theorem T0_pos : 0 < T0 := pw _
theorem top_T : top 0 = (2^53 - 1) * T0 := rfl
theorem mg_top (k : Nat) : mg ((k + 1) * 2^52) = 2^52 * 2^k := by
 have := mg_make (k := k) (m := 2^52) (by decide) (Or.inr (Nat.le_refl _))
 have e : (k + 1) * 2^52 = k * 2^52 + 2^52 := by omega
 rw [e]; exact this
theorem fop_add {x y r : Nat} (h : FOp .add x y r) (hx : fin x) (hy : fin y) (hm : (U x + U y).natAbs ≤ top 0) : Is 0 (U x + U y) r := by
 obtain ⟨v, hv, hi⟩ := add_fin hx hy hm
 rw [h.val v hv]; exact hi
theorem fop_sub {x y r : Nat} (h : FOp .sub x y r) (hx : fin x) (hy : fin y) (hm : (U x - U y).natAbs ≤ top 0) : Is 0 (U x - U y) r := by
 obtain ⟨v, hv, hi⟩ := sub_fin hx hy hm
 rw [h.val v hv]; exact hi
theorem fop_mul {x y r : Nat} (h : FOp .mul x y r) (hx : fin x) (hy : fin y) (hm : (U x * U y).natAbs ≤ top 1074) : Is 1074 (U x * U y) r := by
 obtain ⟨v, hv, hi⟩ := mul_fin hx hy hm
 rw [h.val v hv]; exact hi
theorem val0 {v : Int} {r : Nat} (h : Is 0 v r) : U r = rnI 0 v := by
 have := h.val; rw [Int.pow_zero, Int.mul_one] at this; exact this
theorem isF_T (m : Nat) (hm : m ≤ 2^53) : isF 0 ((m * T0 : Nat) : Int) := by
 refine ⟨TE, Nat.zero_le _, ?_, ?_⟩
 ·rw [natAbs_dvd', Int.natAbs_natCast]; exact Nat.dvd_mul_left _ _
 ·rw [Int.natAbs_natCast]; exact Nat.mul_le_mul_right _ hm
end Go.Proofs.YtapikmfckpgjoaaDoor.EftLaw
end
section
namespace Go.Proofs.YtapikmfckpgjoaaDoor.EftLaw
open Go.Proofs.YtapikmfckpgjoaaDoor.FW Go.Proofs.YtapikmfckpgjoaaDoor.Eft Fl
theorem top_g (g : Nat) : top g = (2^53 - 1) * T0 * 2^g := by
 unfold top T0; rw [Nat.pow_add, Nat.mul_assoc]
theorem le_top {v : Int} {g m : Nat} (h : v.natAbs ≤ m * T0 * 2^g) (hm : m ≤ 2^53 - 1) : v.natAbs ≤ top g := by
 rw [top_g]
 exact Nat.le_trans h (Nat.mul_le_mul_right _ (Nat.mul_le_mul_right _ hm))
theorem le_top0 {v : Int} {m : Nat} (h : v.natAbs ≤ m * T0) (hm : m ≤ 2^53 - 1) : v.natAbs ≤ top 0 := by
 rw [top_T]; exact Nat.le_trans h (Nat.mul_le_mul_right _ hm)
theorem rn_le_T {v : Int} {m : Nat} (h : v.natAbs ≤ m * T0) (hm : m ≤ 2^53) : (rnI 0 v).natAbs ≤ m * T0 := rn_bound (isF_T m hm) h
theorem castQ (q : Nat) : ((134217729 * (2^25 * q) : Nat) : Int) = 134217729 * (2^25 * (q : Int)) := by omega
theorem castK (k : Nat) : ((134217729 * (2^25 * 2^k) : Nat) : Int) = 134217729 * (2^25 * 2^k) := by
 have e5 : (2 : Int)^k = ((2^k : Nat) : Int) := by rw [Int.natCast_pow]; rfl
 rw [e5]; exact castQ _
theorem U_K (g : Nat) (hg : g = 1074) : U 4728779608772575232 = 134217729 * 2^g := by
 obtain ⟨k, hk⟩ : ∃ k, k = 1049 := ⟨_, rfl⟩
 have h1 := mg_make (k := k) (m := 2^52 + 2^25) (by decide) (Or.inr (by decide))
 have e1 : sz 4728779608772575232 = k * 2^52 + (2^52 + 2^25) := by unfold sz; omega
 have e2 : ng 4728779608772575232 = false := by decide
 unfold U
 rw [e2, e1, h1]
 have e3 : g = 25 + k := by omega
 rw [e3]
 rw [if_neg (by decide), Int.pow_add]
 have e4 : (2^52 + 2^25) * 2^k = 134217729 * (2^25 * 2^k) := by rw [← Nat.mul_assoc]
 rw [e4]
 exact castK k
theorem atMost_995 {a : Nat} (h : sz a ≤ 2018 * 2^52) : fin a ∧ (U a).natAbs ≤ 2^24 * T0 := by
 refine ⟨by unfold fin INF; omega, ?_⟩
 rw [U_natAbs]
 have h1 := mg_le h
 obtain ⟨k, hk⟩ : ∃ k, k = 2017 := ⟨_, rfl⟩
 have h2 := mg_top k
 rw [show (k + 1) * 2^52 = 2018 * 2^52 by omega] at h2
 have h3 : T0 = 2^28 * 2^k := by
  have e : TE = 28 + k := by have := TE_eq; omega
  unfold T0; rw [e, Nat.pow_add]
 rw [h2] at h1
 rw [h3]
 omega
theorem valg {g : Nat} {v : Int} {r : Nat} (h : Is g v r) : U r * 2^g = rnI g v := h.val
theorem split_c {g : Nat} {x c : Int} (h : c * 2^g = rnI g (134217729 * 2^g * x)) : c = rnI 0 (134217729 * x) := by
 have e : 134217729 * 2^g * x = 134217729 * x * 2^g := by rw [Int.mul_assoc, Int.mul_comm (2^g) x, ← Int.mul_assoc]
 rw [e] at h
 have s := rnI_scale 0 (134217729 * x) g
 rw [Nat.zero_add] at s
 rw [s] at h
 exact Int.eq_of_mul_eq_mul_right (by have := ipw g; omega) h
theorem split_law {a h l : Nat} (hR : SplitR a h l) (ha : sz a ≤ 2018 * 2^52) :
  fin a ∧ fin h ∧ fin l ∧ (U a).natAbs ≤ 2^24 * T0 ∧ Cut 0 (U a) (U h) (U l) := by
 obtain ⟨c, d, h1, h2, h3, h4⟩ := hR
 obtain ⟨fa, ba⟩ := atMost_995 ha
 have fK : fin 4728779608772575232 := by unfold fin INF sz; omega
 obtain ⟨g, hg⟩ : ∃ g, g = 1074 := ⟨_, rfl⟩
 have hK := U_K g hg
 have hm : (U 4728779608772575232 * U a).natAbs ≤ top g := by
  refine le_top (m := 134217729 * 2^24) ?_ (by decide)
  rw [hK, Int.natAbs_mul, Int.natAbs_mul, Int.natAbs_pow]
  have e : (134217729 : Int).natAbs * (2 : Int).natAbs ^ g * (U a).natAbs = 134217729 * (U a).natAbs * 2^g := by
   rw [Nat.mul_assoc, Nat.mul_comm _ (U a).natAbs, ← Nat.mul_assoc]; rfl
  rw [e]
  refine Nat.mul_le_mul_right _ ?_
  rw [Nat.mul_assoc]
  exact Nat.mul_le_mul_left _ ba
 have i1 := fop_mul h1 fK fa (by rw [← hg]; exact hm)
 have v1 := valg i1
 rw [← hg, hK] at v1
 have u1 := split_c v1
 have hT := T0_pos
 have b1 := rn_le_T (v := 134217729 * U a) (m := 134217729 * 2^24) (by rw [Int.natAbs_mul, Nat.mul_assoc]; exact Nat.mul_le_mul_left _ ba) (by decide)
 rw [← u1] at b1
 have m2 : (U c - U a).natAbs ≤ (134217729 * 2^24 + 2^24) * T0 := by omega
 have i2 := fop_sub h2 i1.fin fa (le_top0 m2 (by decide))
 have b2 := rn_le_T m2 (by decide)
 rw [← val0 i2] at b2
 have m3 : (U c - U d).natAbs ≤ (2 * 134217729 * 2^24 + 2^24) * T0 := by omega
 have i3 := fop_sub h3 i1.fin i2.fin (le_top0 m3 (by decide))
 have b3 := rn_le_T m3 (by decide)
 rw [← val0 i3] at b3
 have m4 : (U a - U h).natAbs ≤ (2 * 134217729 * 2^24 + 2 * 2^24) * T0 := by omega
 have i4 := fop_sub h4 fa i3.fin (le_top0 m4 (by decide))
 exact ⟨fa, i3.fin, i4.fin, ba, split_all (U_isF a) u1 (val0 i2) (val0 i3) (val0 i4)⟩
end Go.Proofs.YtapikmfckpgjoaaDoor.EftLaw
end
section
namespace Go.Proofs.YtapikmfckpgjoaaDoor.EftLaw
open Go.Proofs.YtapikmfckpgjoaaDoor.FW Go.Proofs.YtapikmfckpgjoaaDoor.Eft Fl
theorem isF_Tg (g m : Nat) (hm : m ≤ 2^53) : isF g ((m * T0 * 2^g : Nat) : Int) := by
 refine ⟨TE + g, Nat.le_add_left _ _, ?_, ?_⟩
 ·rw [natAbs_dvd', Int.natAbs_natCast, Nat.pow_add, Nat.mul_assoc]; exact Nat.dvd_mul_left _ _
 ·rw [Int.natAbs_natCast, Nat.pow_add, Nat.mul_assoc]; exact Nat.mul_le_mul_right _ hm
theorem mul_in {g x y r m : Nat} (hg : g = 1074) (h : FOp .mul x y r) (fx : fin x) (fy : fin y) (hm : (U x * U y).natAbs ≤ m * T0 * 2^g) (hm2 : m ≤ 2^53 - 1) :
  Is g (U x * U y) r ∧ (U r).natAbs ≤ m * T0 := by
 have i : Is g (U x * U y) r := by rw [hg]; exact fop_mul h fx fy (by rw [← hg]; exact le_top hm hm2)
 refine ⟨i, ?_⟩
 have b := rn_bound (isF_Tg g m (by omega)) hm
 rw [← i.val, Int.natAbs_mul, Int.natAbs_pow] at b
 exact Nat.le_of_mul_le_mul_right b (Nat.two_pow_pos g)
theorem scale0 {v : Int} {r : Nat} (g : Nat) (i : Is 0 v r) : U r * 2^g = rnI g (v * 2^g) := by
 have s := rnI_scale 0 v g
 rw [Nat.zero_add] at s
 rw [s, val0 i]
theorem add_in {x y r m : Nat} (g : Nat) (h : FOp .add x y r) (fx : fin x) (fy : fin y) (hm : (U x + U y).natAbs ≤ m * T0) (hm2 : m ≤ 2^53 - 1) :
  Is 0 (U x + U y) r ∧ (U r).natAbs ≤ m * T0 ∧ U r * 2^g = rnI g (U x * 2^g + U y * 2^g) := by
 have i := fop_add h fx fy (le_top0 hm hm2)
 refine ⟨i, ?_, by rw [scale0 g i, Int.add_mul]⟩
 have b := rn_le_T hm (by omega)
 rw [← val0 i] at b
 exact b
theorem sub_in {x y r m : Nat} (g : Nat) (h : FOp .sub x y r) (fx : fin x) (fy : fin y) (hm : (U x - U y).natAbs ≤ m * T0) (hm2 : m ≤ 2^53 - 1) :
  Is 0 (U x - U y) r ∧ (U r).natAbs ≤ m * T0 ∧ U r * 2^g = rnI g (U x * 2^g - U y * 2^g) := by
 have i := fop_sub h fx fy (le_top0 hm hm2)
 refine ⟨i, ?_, by rw [scale0 g i, Int.sub_mul]⟩
 have b := rn_le_T hm (by omega)
 rw [← val0 i] at b
 exact b
theorem four_mul {X Y : Nat} : 2 * X * (2 * Y) = 4 * (X * Y) := by rw [Nat.mul_mul_mul_comm]
theorem hh_bound {X Y A B N : Nat} (h1 : 2 * X ≤ 3 * A) (h2 : 2 * Y ≤ 3 * B) (h : A * B ≤ 2^50 * N) : X * Y ≤ 9 * 2^48 * N := by
 have h3 := Nat.mul_le_mul h1 h2
 rw [four_mul, Nat.mul_mul_mul_comm 3] at h3
 omega
theorem hl_bound {X Y A B N : Nat} (h1 : 2 * X ≤ 3 * A) (h2 : 2 * Y ≤ B) (h : A * B ≤ 2^50 * N) : X * Y ≤ 2^50 * N := by
 have h3 := Nat.mul_le_mul h1 h2
 rw [four_mul, Nat.mul_assoc] at h3
 omega
theorem cut_hi {g : Nat} {a h l : Int} (c : Cut g a h l) : 2 * h.natAbs ≤ 3 * a.natAbs ∧ 2 * l.natAbs ≤ a.natAbs ∧ l.natAbs ≤ a.natAbs := by
 have h1 := cut_small c
 have h2 := c.sum
 omega
theorem ke_sum {g : Nat} {a b : Int} (h : 2^(g + 114) ≤ (a * b).natAbs) : g ≤ ke 0 a + ke 0 b := by
 have h1 := ke_lt 0 a
 have h2 := ke_lt 0 b
 have h1' : a.natAbs < 2^(53 + ke 0 a) := by rw [Nat.pow_add]; exact_mod_cast h1
 have h2' : b.natAbs < 2^(53 + ke 0 b) := by rw [Nat.pow_add]; exact_mod_cast h2
 have h3 := Nat.mul_lt_mul'' h1' h2'
 rw [← Int.natAbs_mul, ← Nat.pow_add] at h3
 have h4 := (Nat.pow_lt_pow_iff_right (a := 2) (by decide)).1 (Nat.lt_of_le_of_lt h h3)
 omega
theorem little {g : Nat} {v : Int} (h : 2^52 * (2:Int)^(ke g v) ≤ v.natAbs) : 2^53 * (v - rnI g v).natAbs ≤ (rnI g v).natAbs := by
 have he := rnI_err g v
 obtain ⟨K, hK⟩ : ∃ K : Int, K = 2^(ke g v) := ⟨_, rfl⟩
 have hpos := ipw (ke g v)
 have hf : isF g (2^52 * K) := isF_of (ke g v) (ke_ge g v) (by rw [hK]; exact Int.dvd_mul_left _ _) (by rw [← hK] at hpos ⊢; omega)
 rw [← hK] at h he hpos
 by_cases h0 : 0 ≤ v
 ·have n := rnI_near hf (v := v)
  omega
 ·have n := rnI_near (isF_neg hf) (v := v)
  omega
theorem little_big {g : Nat} {v : Int} (h : 2^(g + 52) ≤ v.natAbs) : 2^53 * (v - rnI g v).natAbs ≤ (rnI g v).natAbs := by
 by_cases hk : ke g v = g
 ·refine little ?_
  rw [hk]
  rw [Nat.pow_add, Nat.mul_comm] at h
  exact_mod_cast h
 ·exact little (ke_le hk)
theorem prod_law {g a b p e : Nat} (hg : g = 1074) (hR : ProdR a b p e) (ha : sz a ≤ 2018 * 2^52) (hb : sz b ≤ 2018 * 2^52)
  (hlo : U a * U b = 0 ∨ 2^(g + 114) ≤ (U a * U b).natAbs) (hhi : (U a * U b).natAbs ≤ 2^50 * T0 * 2^g) :
  Is g (U a * U b) p ∧ fin e ∧ (U p).natAbs ≤ 2^50 * T0 ∧ (U p + U e) * 2^g = U a * U b ∧ 2^53 * (U e).natAbs ≤ (U p).natAbs := by
 obtain ⟨ah, al, bh, bl, x1, e1, x2, e2, x3, e3, x4, hp, sa, sb, h1, k1, h2, k2, h3, k3, h4, k4⟩ := hR
 obtain ⟨fa, fah, fal, ba, ca⟩ := split_law sa ha
 obtain ⟨fb, fbh, fbl, bb, cb⟩ := split_law sb hb
 obtain ⟨a1, a2, a3⟩ := cut_hi ca
 obtain ⟨b1, b2, b3⟩ := cut_hi cb
 have hN : (U a).natAbs * (U b).natAbs ≤ 2^50 * (T0 * 2^g) := by rw [← Int.natAbs_mul, ← Nat.mul_assoc]; exact hhi
 have hN' : (U b).natAbs * (U a).natAbs ≤ 2^50 * (T0 * 2^g) := by rw [Nat.mul_comm]; exact hN
 obtain ⟨ip, bp⟩ := mul_in hg hp fa fb hhi (by decide)
 obtain ⟨i1, c1⟩ := mul_in (m := 9 * 2^48) hg h1 fah fbh (by rw [Int.natAbs_mul, Nat.mul_assoc (9 * 2^48)]; exact hh_bound a1 b1 hN) (by decide)
 obtain ⟨i2, c2⟩ := mul_in (m := 2^50) hg h2 fah fbl (by rw [Int.natAbs_mul, Nat.mul_assoc (2^50)]; exact hl_bound a1 b2 hN) (by decide)
 obtain ⟨i3, c3⟩ := mul_in (m := 2^50) hg h3 fal fbh (by rw [Int.natAbs_mul, Nat.mul_comm (U al).natAbs, Nat.mul_assoc (2^50)]; exact hl_bound b1 a2 hN') (by decide)
 obtain ⟨i4, c4⟩ := mul_in (m := 2^50) hg h4 fal fbl (by rw [Int.natAbs_mul, Nat.mul_assoc (2^50)]; exact Nat.le_trans (Nat.mul_le_mul a3 b3) hN) (by decide)
 obtain ⟨j1, d1, w1⟩ := sub_in (m := 13 * 2^48) g k1 i1.fin ip.fin (by omega) (by decide)
 obtain ⟨j2, d2, w2⟩ := add_in (m := 17 * 2^48) g k2 j1.fin i2.fin (by omega) (by decide)
 obtain ⟨j3, d3, w3⟩ := add_in (m := 21 * 2^48) g k3 j2.fin i3.fin (by omega) (by decide)
 obtain ⟨j4, d4, w4⟩ := add_in (m := 25 * 2^48) g k4 j3.fin i4.fin (by omega) (by decide)
 have hk : U a * U b = 0 ∨ g ≤ ke 0 (U a) + ke 0 (U b) := hlo.imp id ke_sum
 have hT := (two_prod (U_isF a) (U_isF b) ca cb hk ip.val i1.val w1 i2.val w2 i3.val w3 i4.val w4).1
 refine ⟨ip, j4.fin, bp, by rw [Int.add_mul]; exact hT, ?_⟩
 have hl : 2^53 * (U a * U b - rnI g (U a * U b)).natAbs ≤ (rnI g (U a * U b)).natAbs := by
  rcases hlo with h | h
  ·rw [h, rnI_exact (isF_zero g)]; decide
  ·exact little_big (Nat.le_trans (Nat.pow_le_pow_right (by decide) (by omega)) h)
 rw [← ip.val] at hl
 have he : U a * U b - U p * 2^g = U e * 2^g := by omega
 rw [he, Int.natAbs_mul, Int.natAbs_mul, Int.natAbs_pow, ← Nat.mul_assoc] at hl
 exact Nat.le_of_mul_le_mul_right hl (Nat.two_pow_pos g)
end Go.Proofs.YtapikmfckpgjoaaDoor.EftLaw
end
