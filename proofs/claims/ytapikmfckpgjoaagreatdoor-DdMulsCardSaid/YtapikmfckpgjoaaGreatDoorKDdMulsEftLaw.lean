/- The float operations of the walk: what an operation on binary64 words gives is the valid result, or some NaN where there is none. No condition. Contracts of TwoSum, FastTwoSum, Split and TwoProd, and of the statements' own calls of them, for any words: each step is a float operation of the model. No condition. What TwoSum, FastTwoSum, Split and TwoProd answer, in whole numbers of units: the rounded sum (product), and just what is missing. Conditions: the document's bounds on the numbers. -/
import Derived.Test.YtapikmfckpgjoaaGreatDoorKDdMulsFl
import Derived.WalkKit
import Derived.WalkLawsBesides
import Derived.Laws.Externs
import Derived.Deep.Draws
import Derived.Test.YtapikmfckpgjoaaGreatDoorProg
section
namespace Go.Proofs.YtapikmfckpgjoaaGreatDoor.FW
open Go.RowKit
structure Drew (w w' : World) : Prop where mk :: (out : ∃ n, w' = w.drewN n)
theorem Drew.refl (w : World) : Drew w w := ⟨⟨0, rfl⟩⟩
theorem Drew.trans {w w1 w2 : World} (h : Drew w w1) (k : Drew w1 w2) : Drew w w2 := by
 obtain ⟨n, rfl⟩ := h.out
 obtain ⟨m, rfl⟩ := k.out
 exact ⟨⟨n + m, World.drewN_drewN ..⟩⟩
theorem Drew.below {w w' : World} (h : Drew w w') : Below w.heap.size w w' := by
 obtain ⟨n, rfl⟩ := h.out
 have core : ∀ n, Below w.heap.size w (w.drewN n) := by
  intro n
  induction n with
  | zero => exact Below.refl _ _
  | succ n ih => rw [← World.drew_drewN]; exact ih.drew
 exact core n
structure FOp (op : BinOp) (x y r : Nat) : Prop where mk :: (lt : r < 18446744073709551616) (val : ∀ v, floatBits op .f64 x y = some v → r = v) (nan : floatBits op .f64 x y = none → 9218868437227405312 < r % 9223372036854775808)
theorem nan_cut (x y t : Nat) : (Question.nanBits .f64 x y).cut t < 18446744073709551616 ∧ 9218868437227405312 < (Question.nanBits .f64 x y).cut t % 9223372036854775808 := by
 show (t % 2) * 2 ^ 63 + 0x7ff0000000000000 + 1 + (t / 2) % (2 ^ 52 - 1) < _ ∧ _ < ((t % 2) * 2 ^ 63 + 0x7ff0000000000000 + 1 + (t / 2) % (2 ^ 52 - 1)) % _
 have h1 := Nat.mod_lt t (show 0 < 2 by decide)
 have h2 := Nat.mod_lt (t / 2) (show 0 < 2 ^ 52 - 1 by decide)
 generalize t / 2 % (2 ^ 52 - 1) = m at *
 generalize t % 2 = s at *
 omega
theorem run_fop {P : Program} (op : BinOp) (t : TypeId) (x y : Nat) (w : World) (h : op = .add ∨ op = .sub ∨ op = .mul ∨ op = .quo) :
  ∃ r w', (binOp op t (.float .f64 x) (.float .f64 y)).run P w = .ok (.float .f64 r) w' ∧ FOp op x y r ∧ Drew w w' := by
 have hf : (Question.nanBits FloatKind.f64 x y).forced = false := rfl
 rcases hb : floatBits op FloatKind.f64 x y with _ | r
 ·refine ⟨(Question.nanBits .f64 x y).cut (w.tape w.drawn (.nanBits .f64 x y)), w.drew, ?_, ⟨(nan_cut _ _ _).1, fun v hv => by (rw [hb] at hv; cases hv), fun _ => (nan_cut _ _ _).2⟩, ⟨⟨1, rfl⟩⟩⟩
  rcases h with rfl | rfl | rfl | rfl
  all_goals
   unfold floatBits at hb
   simp [binOp, Op.floatArith, hb, hf]
 ·refine ⟨r, w, run_float_arith w op t .f64 x y r hb, ⟨?_, fun v hv => by (rw [hb] at hv; injection hv), fun hn => by (rw [hb] at hn; cases hn)⟩, Drew.refl w⟩
  have := floatBits_wf hb
  simpa [Lit.wf] using this
section
variable {P : Program} {ops : Array Oper} {rest : List Oper} {o : Oper} {a : Act} {Q : Exit → Act → World → Prop} {w : World}
theorem wpList_fop (op : BinOp) (hop : op = .add ∨ op = .sub ∨ op = .mul ∨ op = .quo) (hgd : o.guard = none) {t ty : TypeId} {xo yo : Operand} (ho : o.op = .binOp op t xo yo ty) {X Y : Nat} (hx : a.eval xo = .float .f64 X) (hy : a.eval yo = .float .f64 Y)
  (h : ∀ r w1, FOp op X Y r → Drew w w1 → wpList P ops Q rest (a.put o.dst (.float .f64 r)) w1) : wpList P ops Q (o :: rest) a w := by
 obtain ⟨r, w1, hr, h1, h2⟩ := run_fop (P := P) op t X Y w hop
 refine wpList_plain hgd fun K hK => ?_
 unfold Oper.wp
 have hg : (eqGuard op t xo yo (.float .f64 X) (.float .f64 Y)).run P w = .ok () w := by
  rcases hop with rfl | rfl | rfl | rfl <;> rfl
 simp [execOp, ho, hx, hy, hg, hr, Result.andThen]
 exact hK _ _ (h r w1 h1 h2)
end
end Go.Proofs.YtapikmfckpgjoaaGreatDoor.FW
end
section
namespace Go.Proofs.YtapikmfckpgjoaaGreatDoor.Eft
open Go.RowKit Go.Proofs.YtapikmfckpgjoaaGreatDoor.FW
def TwoSumR (a b s e : Nat) : Prop := ∃ bb aa t1 t2, FOp .add a b s ∧ FOp .sub s a bb ∧ FOp .sub s bb aa ∧ FOp .sub a aa t1 ∧ FOp .sub b bb t2 ∧ FOp .add t1 t2 e
def FastR (a b s e : Nat) : Prop := ∃ z, FOp .add a b s ∧ FOp .sub s a z ∧ FOp .sub b z e
def SplitR (a h l : Nat) : Prop := ∃ c d, FOp .mul 4728779608772575232 a c ∧ FOp .sub c a d ∧ FOp .sub c d h ∧ FOp .sub a h l
def ProdR (a b p e : Nat) : Prop := ∃ ah al bh bl x1 e1 x2 e2 x3 e3 x4, FOp .mul a b p ∧ SplitR a ah al ∧ SplitR b bh bl ∧ FOp .mul ah bh x1 ∧ FOp .sub x1 p e1 ∧ FOp .mul ah bl x2 ∧ FOp .add e1 x2 e2 ∧ FOp .mul al bh x3 ∧ FOp .add e2 x3 e3 ∧ FOp .mul al bl x4 ∧ FOp .add e3 x4 e
def Two (R : Nat → Nat → Prop) (w : World) (e : Ending) (w' : World) : Prop := ∃ s t, e = .returned (.tuple #[.float .f64 s, .float .f64 t]) ∧ R s t ∧ Drew w w'
set_option maxHeartbeats 1000000 in
theorem fast_any (a b : Nat) (w : World) : Calls Tryz.prog 68 #[.float .f64 a, .float .f64 b] w (Two (FastR a b) w) := by
 have tok1 : True := trivial
 have tok2 : True := trivial
 have tok3 : True := trivial
 go_enter Tryz.func68, Tryz.ntmps68
 go_wp2_with (first | (have _t := tok1; refine wpList_fop .add (by simp) rfl rfl rfl rfl ?_; intro r1 w1 h1 d1; clear tok1) | (have _t := tok2; refine wpList_fop .sub (by simp) rfl rfl rfl rfl ?_; intro r2 w2 h2 d2; clear tok2) | (have _t := tok3; refine wpList_fop .sub (by simp) rfl rfl rfl rfl ?_; intro r3 w3 h3 d3; clear tok3))
 go_ret2
 exact ⟨_, _, rfl, ⟨_, h1, h2, h3⟩, ((d1).trans d2).trans d3⟩
theorem TwoSumR.lt {a b s e : Nat} (h : TwoSumR a b s e) : s < 18446744073709551616 ∧ e < 18446744073709551616 := by
 obtain ⟨_, _, _, _, h1, _, _, _, _, h6⟩ := h
 exact ⟨h1.lt, h6.lt⟩
theorem FastR.lt {a b s e : Nat} (h : FastR a b s e) : s < 18446744073709551616 ∧ e < 18446744073709551616 := by
 obtain ⟨_, h1, _, h3⟩ := h
 exact ⟨h1.lt, h3.lt⟩
theorem SplitR.lt {a s e : Nat} (h : SplitR a s e) : s < 18446744073709551616 ∧ e < 18446744073709551616 := by
 obtain ⟨_, _, _, _, h3, h4⟩ := h
 exact ⟨h3.lt, h4.lt⟩
theorem ProdR.lt {a b s e : Nat} (h : ProdR a b s e) : s < 18446744073709551616 ∧ e < 18446744073709551616 := by
 obtain ⟨_, _, _, _, _, _, _, _, _, _, _, h1, _, _, _, _, _, _, _, _, _, h6⟩ := h
 exact ⟨h1.lt, h6.lt⟩
end Go.Proofs.YtapikmfckpgjoaaGreatDoor.Eft
end
section
namespace Go.Proofs.YtapikmfckpgjoaaGreatDoor.EftLaw
open Go.Proofs.YtapikmfckpgjoaaGreatDoor.FW Go.Proofs.YtapikmfckpgjoaaGreatDoor.Eft Fl
noncomputable def T0 : Nat := 2^TE
theorem T0_pos : 0 < T0 := pw _
theorem top_T : top 0 = (2^53 - 1) * T0 := rfl
theorem mg_top (k : Nat) : mg ((k + 1) * 2^52) = 2^52 * 2^k := by
 have := mg_make (k := k) (m := 2^52) (by decide) (Or.inr (Nat.le_refl _))
 have e : (k + 1) * 2^52 = k * 2^52 + 2^52 := by omega
 rw [e]; exact this
theorem fop_add {x y r : Nat} (h : FOp .add x y r) (hx : fin x) (hy : fin y) (hm : (U x + U y).natAbs ≤ top 0) : Is 0 (U x + U y) r := by
 obtain ⟨v, hv, hi⟩ := add_fin hx hy hm
 rw [h.val v hv]; exact hi
theorem fop_sub {x y r : Nat} (h : FOp .sub x y r) (hx : fin x) (hy : fin y) (hm : (U x - U y).natAbs ≤ top 0) : Is 0 (U x - U y) r := by
 obtain ⟨v, hv, hi⟩ := sub_fin hx hy hm
 rw [h.val v hv]; exact hi
theorem fop_mul {x y r : Nat} (h : FOp .mul x y r) (hx : fin x) (hy : fin y) (hm : (U x * U y).natAbs ≤ top 1074) : Is 1074 (U x * U y) r := by
 obtain ⟨v, hv, hi⟩ := mul_fin hx hy hm
 rw [h.val v hv]; exact hi
theorem val0 {v : Int} {r : Nat} (h : Is 0 v r) : U r = rnI 0 v := by
 have := h.val; rw [Int.pow_zero, Int.mul_one] at this; exact this
theorem isF_T (m : Nat) (hm : m ≤ 2^53) : isF 0 ((m * T0 : Nat) : Int) := by
 refine ⟨TE, Nat.zero_le _, ?_, ?_⟩
 ·rw [natAbs_dvd', Int.natAbs_natCast]; exact Nat.dvd_mul_left _ _
 ·rw [Int.natAbs_natCast]; exact Nat.mul_le_mul_right _ hm
end Go.Proofs.YtapikmfckpgjoaaGreatDoor.EftLaw
end
