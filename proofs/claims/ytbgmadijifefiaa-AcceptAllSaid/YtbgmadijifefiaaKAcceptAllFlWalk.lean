/- The float operations of the walk: what an operation on binary64 words gives is the valid result, or some NaN where there is none. No condition. -/
import Derived.Test.YtbgmadijifefiaaKAcceptAllFl
import Derived.WalkKit
import Derived.WalkLawsBesides
import Derived.Laws.Externs
import Derived.Deep.Draws
namespace Go.Proofs.Ytbgmadijifefiaa.FW
open Go.RowKit
structure Drew (w w' : World) : Prop where mk :: (out : ∃ n, w' = w.drewN n)
theorem Drew.refl (w : World) : Drew w w := ⟨⟨0, rfl⟩⟩
theorem Drew.trans {w w1 w2 : World} (h : Drew w w1) (k : Drew w1 w2) : Drew w w2 := by
 obtain ⟨n, rfl⟩ := h.out
 obtain ⟨m, rfl⟩ := k.out
 exact ⟨⟨n + m, World.drewN_drewN ..⟩⟩
theorem Drew.below {w w' : World} (h : Drew w w') : Below w.heap.size w w' := by
 obtain ⟨n, rfl⟩ := h.out
 have core : ∀ n, Below w.heap.size w (w.drewN n) := by
  intro n
  induction n with
  | zero => exact Below.refl _ _
  | succ n ih => rw [← World.drew_drewN]; exact ih.drew
 exact core n
theorem Drew.to_below {w0 w w' : World} (h0 : Below w0.heap.size w0 w) (h : Drew w w') : Below w0.heap.size w0 w' := by
 obtain ⟨n, rfl⟩ := h.out
 have core : ∀ n, Below w0.heap.size w0 (w.drewN n) := by
  intro n
  induction n with
  | zero => exact h0
  | succ n ih => rw [← World.drew_drewN]; exact ih.drew
 exact core n
structure FOp (op : BinOp) (x y r : Nat) : Prop where mk :: (lt : r < 18446744073709551616) (val : ∀ v, floatBits op .f64 x y = some v → r = v) (nan : floatBits op .f64 x y = none → 9218868437227405312 < r % 9223372036854775808)
theorem nan_cut (x y t : Nat) : (Question.nanBits .f64 x y).cut t < 18446744073709551616 ∧ 9218868437227405312 < (Question.nanBits .f64 x y).cut t % 9223372036854775808 := by
 show (t % 2) * 2 ^ 63 + 0x7ff0000000000000 + 1 + (t / 2) % (2 ^ 52 - 1) < _ ∧ _ < ((t % 2) * 2 ^ 63 + 0x7ff0000000000000 + 1 + (t / 2) % (2 ^ 52 - 1)) % _
 have h1 := Nat.mod_lt t (show 0 < 2 by decide)
 have h2 := Nat.mod_lt (t / 2) (show 0 < 2 ^ 52 - 1 by decide)
 generalize t / 2 % (2 ^ 52 - 1) = m at *
 generalize t % 2 = s at *
 omega
theorem run_fop {P : Program} (op : BinOp) (t : TypeId) (x y : Nat) (w : World) (h : op = .add ∨ op = .sub ∨ op = .mul ∨ op = .quo) :
  ∃ r w', (binOp op t (.float .f64 x) (.float .f64 y)).run P w = .ok (.float .f64 r) w' ∧ FOp op x y r ∧ Drew w w' := by
 have hf : (Question.nanBits FloatKind.f64 x y).forced = false := rfl
 rcases hb : floatBits op FloatKind.f64 x y with _ | r
 ·refine ⟨(Question.nanBits .f64 x y).cut (w.tape w.drawn (.nanBits .f64 x y)), w.drew, ?_, ⟨(nan_cut _ _ _).1, fun v hv => by (rw [hb] at hv; cases hv), fun _ => (nan_cut _ _ _).2⟩, ⟨⟨1, rfl⟩⟩⟩
  rcases h with rfl | rfl | rfl | rfl
  all_goals
   unfold floatBits at hb
   simp [binOp, Op.floatArith, hb, hf]
 ·refine ⟨r, w, run_float_arith w op t .f64 x y r hb, ⟨?_, fun v hv => by (rw [hb] at hv; injection hv), fun hn => by (rw [hb] at hn; cases hn)⟩, Drew.refl w⟩
  have := floatBits_wf hb
  simpa [Lit.wf] using this
section
variable {P : Program} {ops : Array Oper} {rest : List Oper} {o : Oper} {a : Act} {Q : Exit → Act → World → Prop} {w : World}
theorem wpList_fop (op : BinOp) (hop : op = .add ∨ op = .sub ∨ op = .mul ∨ op = .quo) (hgd : o.guard = none) {t ty : TypeId} {xo yo : Operand} (ho : o.op = .binOp op t xo yo ty) {X Y : Nat} (hx : a.eval xo = .float .f64 X) (hy : a.eval yo = .float .f64 Y)
  (h : ∀ r w1, FOp op X Y r → Drew w w1 → wpList P ops Q rest (a.put o.dst (.float .f64 r)) w1) : wpList P ops Q (o :: rest) a w := by
 obtain ⟨r, w1, hr, h1, h2⟩ := run_fop (P := P) op t X Y w hop
 refine wpList_plain hgd fun K hK => ?_
 unfold Oper.wp
 have hg : (eqGuard op t xo yo (.float .f64 X) (.float .f64 Y)).run P w = .ok () w := by
  rcases hop with rfl | rfl | rfl | rfl <;> rfl
 simp [execOp, ho, hx, hy, hg, hr, Result.andThen]
 exact hK _ _ (h r w1 h1 h2)
end
end Go.Proofs.Ytbgmadijifefiaa.FW
