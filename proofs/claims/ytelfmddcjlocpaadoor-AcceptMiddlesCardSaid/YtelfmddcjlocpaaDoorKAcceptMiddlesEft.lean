/- What the reference's signed numbers, its numbers of patterns, and its rounding answer, told by whole numbers. Plain Lean over the printed functions. Conditions: numbers of less than 2^38 digits. What the reference's comparison of scaled numbers and its rounding to binary64 answer: the rung of the exact number, rounded to nearest, ties to even. Plain Lean over the printed functions. Conditions: exponents within 2^30, numbers of less than 2^37 digits. The rounding cell of a pattern: a number is rounded to it just when it lies between the middles to its neighbours (an end belongs to the even one). Plain Lean. No condition. The float operations of the walk: what an operation on binary64 words gives is the valid result, or some NaN where there is none. No condition. Contracts of TwoSum, FastTwoSum, Split and TwoProd, and of the statements' own calls of them, for any words: each step is a float operation of the model. No condition. -/
import Derived.Test.YtelfmddcjlocpaaDoorKAcceptMiddlesBl
import Derived.Test.YtelfmddcjlocpaaDoorKAcceptMiddlesFl
import Derived.WalkKit
import Derived.WalkLawsBesides
import Derived.Laws.Externs
import Derived.Deep.Draws
import Derived.Test.YtelfmddcjlocpaaDoorProg
section
namespace Go.Proofs.YtelfmddcjlocpaaDoor.Ref
open Go.RowKit Go.Proofs.YtelfmddcjlocpaaDoorW.PrintWords Go.Proofs.YtelfmddcjlocpaaDoorW.PrintMore Go.Proofs.YtelfmddcjlocpaaDoor.Num Fl
def zn (z : Int) : Bool := decide (z < 0)
end Go.Proofs.YtelfmddcjlocpaaDoor.Ref
end
section
namespace Go.Proofs.YtelfmddcjlocpaaDoor.Ref
open Go.RowKit Go.Proofs.YtelfmddcjlocpaaDoorW.PrintWords Go.Proofs.YtelfmddcjlocpaaDoorW.PrintMore Go.Proofs.YtelfmddcjlocpaaDoor.Num Fl
def szf (u : Nat) : Nat := (bl u - 53) * 2^52 + u / 2^(bl u - 53)
theorem szf_low {u : Nat} : u / 2^(bl u - 53) < 2^53 := by
 rw [Nat.div_lt_iff_lt_mul (Nat.two_pow_pos _), ← Nat.pow_add]
 exact Nat.lt_of_lt_of_le (bl_lt u) (Nat.pow_le_pow_right (by decide) (by omega))
theorem kx_bl (g V : Nat) : kx g V - g = bl (V / 2^g) - 53 := by
 unfold kx
 by_cases h : V / 2^g = 0
 ·rw [h]
  have hlt : V < 2^g := by
   rcases Nat.div_eq_zero_iff.1 h with h | h
   ·have := Nat.two_pow_pos g; omega
   ·exact h
  have h0 : bl 0 = 0 := rfl
  rw [h0]
  by_cases hV : V = 0
  ·subst hV; rw [Nat.log2_zero]; omega
  ·have := (Nat.log2_lt hV).2 hlt
   omega
 ·have hV : V ≠ 0 := by intro e; rw [e, Nat.zero_div] at h; exact h rfl
  have h1 : (V / 2^g).log2 + g = V.log2 := by
   symm
   rw [Nat.log2_eq_iff hV]
   have a := Nat.log2_self_le h
   have b : V / 2^g < 2^((V / 2^g).log2 + 1) := Nat.lt_log2_self
   constructor
   ·rw [Nat.pow_add]
    exact (Nat.le_div_iff_mul_le (Nat.two_pow_pos g)).1 a
   ·rw [show (V / 2^g).log2 + g + 1 = (V / 2^g).log2 + 1 + g from by omega, Nat.pow_add]
    exact (Nat.div_lt_iff_lt_mul (Nat.two_pow_pos g)).1 b
  have h2 : bl (V / 2^g) = (V / 2^g).log2 + 1 := by unfold bl; rw [if_neg h]
  omega
theorem rung_size (g V : Nat) : rung g V = szf (V / 2^g) + (if (mg (szf (V / 2^g)) + mg (szf (V / 2^g) + 1)) * 2^g < 2 * V ∨ ((mg (szf (V / 2^g)) + mg (szf (V / 2^g) + 1)) * 2^g = 2 * V ∧ szf (V / 2^g) % 2 = 1) then 1 else 0) := by
 have hk := kx_bl g V
 have hge := kx_ge g V
 have hkk : kx g V = g + (bl (V / 2^g) - 53) := by omega
 have hq : V / 2^(kx g V) = V / 2^g / 2^(bl (V / 2^g) - 53) := by rw [hkk, Nat.pow_add, Nat.div_div_eq_div_mul]
 have hlow := szf_low (u := V / 2^g)
 have hhi : bl (V / 2^g) - 53 = 0 ∨ 2^52 ≤ V / 2^g / 2^(bl (V / 2^g) - 53) := by
  by_cases h : bl (V / 2^g) - 53 = 0
  ·exact Or.inl h
  ·right
   rw [Nat.le_div_iff_mul_le (Nat.two_pow_pos _), ← Nat.pow_add]
   have hne : V / 2^g ≠ 0 := by intro e; rw [e] at h; exact h rfl
   have := bl_ge hne
   rw [show bl (V / 2^g) - 1 = 52 + (bl (V / 2^g) - 53) from by omega] at this
   exact this
 have hm1 : mg (szf (V / 2^g)) = V / 2^g / 2^(bl (V / 2^g) - 53) * 2^(bl (V / 2^g) - 53) := by
  unfold szf; exact mg_make (Nat.le_of_lt hlow) hhi
 have hm2 : mg (szf (V / 2^g) + 1) = (V / 2^g / 2^(bl (V / 2^g) - 53) + 1) * 2^(bl (V / 2^g) - 53) := by
  unfold szf; rw [Nat.add_assoc]; exact mg_make (by omega) (by omega)
 have hsum : (mg (szf (V / 2^g)) + mg (szf (V / 2^g) + 1)) * 2^g = (2 * (V / 2^(kx g V)) + 1) * 2^(kx g V) := by
  rw [hm1, hm2, ← Nat.add_mul, Nat.mul_assoc, ← Nat.pow_add, hq, hkk, Nat.add_comm g]
  congr 1; omega
 have hpar : szf (V / 2^g) % 2 = V / 2^(kx g V) % 2 := by
  unfold szf; rw [hq]; omega
 have hs : szf (V / 2^g) = (kx g V - g) * 2^52 + V / 2^(kx g V) := by unfold szf; rw [hk, hq]
 have hdm := Nat.div_add_mod V (2^(kx g V))
 rw [hsum, hpar, hs]
 unfold rung rhe
 generalize V / 2^(kx g V) = q at *
 generalize V % 2^(kx g V) = r at *
 generalize 2^(kx g V) = P at *
 rw [Nat.add_mul, Nat.one_mul]
 have e : 2 * q * P = 2 * (P * q) := by rw [Nat.mul_assoc, Nat.mul_comm P]
 rw [e, ← Nat.add_assoc]
 congr 1
 by_cases h : P < 2 * r ∨ (P = 2 * r ∧ q % 2 = 1)
 ·rw [if_pos h, if_pos (by omega)]
 ·rw [if_neg h, if_neg (by omega)]
end Go.Proofs.YtelfmddcjlocpaaDoor.Ref
end
section
namespace Go.Proofs.YtelfmddcjlocpaaDoor.Cell
open Go.Proofs.YtelfmddcjlocpaaDoor.Ref Fl
theorem bl_lo {u : Nat} (h : 53 < bl u) : 2^52 * 2^(bl u - 53) ≤ u := by
 have hm : u ≠ 0 := by intro e; subst e; have : bl 0 = 0 := rfl; omega
 have hb : bl u = u.log2 + 1 := by unfold bl; rw [if_neg hm]
 have h1 := Nat.log2_self_le hm
 rw [← Nat.pow_add]
 have : 52 + (bl u - 53) = u.log2 := by omega
 rw [this]; exact h1
theorem mg_szf (u : Nat) : mg (szf u) ≤ u ∧ u < mg (szf u + 1) := by
 have h1 := szf_low (u := u)
 have hp := Nat.two_pow_pos (bl u - 53)
 have hq : bl u - 53 = 0 ∨ 2^52 ≤ u / 2^(bl u - 53) := by
  by_cases h : 53 < bl u
  ·right; rw [Nat.le_div_iff_mul_le hp]; exact bl_lo h
  ·left; omega
 have e1 := mg_make (k := bl u - 53) (m := u / 2^(bl u - 53)) (by omega) hq
 have e2 := mg_make (k := bl u - 53) (m := u / 2^(bl u - 53) + 1) (by omega) (hq.imp id (fun h => by omega))
 have d := Nat.div_add_mod u (2^(bl u - 53))
 have l := Nat.mod_lt u hp
 unfold szf
 rw [Nat.add_assoc, e1, e2, Nat.add_mul, Nat.one_mul]
 rw [Nat.mul_comm] at d
 omega
def InZ (V s : Nat) : Prop := if s % 2 = 0 then mg (s - 1) + mg s ≤ 2 * V ∧ 2 * V ≤ mg s + mg (s + 1) else mg (s - 1) + mg s < 2 * V ∧ 2 * V < mg s + mg (s + 1)
theorem rung0 (V : Nat) : rung 0 V = szf V + (if (mg (szf V) + mg (szf V + 1)) < 2 * V ∨ ((mg (szf V) + mg (szf V + 1)) = 2 * V ∧ szf V % 2 = 1) then 1 else 0) := by
 have h := rung_size 0 V
 rw [Nat.pow_zero, Nat.div_one, Nat.mul_one] at h
 exact h
theorem inz_of {V s : Nat} (hs : s ≠ 0) (h : rung 0 V = s) : InZ V s := by
 obtain ⟨h1, h2⟩ := mg_szf V
 rw [rung0] at h
 unfold InZ
 generalize szf V = t at *
 split at h
 ·rename_i hc
  obtain rfl : s = t + 1 := h.symm
  have e : t + 1 - 1 = t := by omega
  rw [e]
  have m1 := mg_lt (show t + 1 < t + 1 + 1 by omega)
  split <;> omega
 ·rename_i hc
  obtain rfl : s = t := by omega
  have m1 := mg_lt (show s - 1 < s by omega)
  split <;> omega
end Go.Proofs.YtelfmddcjlocpaaDoor.Cell
end
section
namespace Go.Proofs.YtelfmddcjlocpaaDoor.FW
open Go.RowKit
structure Drew (w w' : World) : Prop where mk :: (out : ∃ n, w' = w.drewN n)
theorem Drew.refl (w : World) : Drew w w := ⟨⟨0, rfl⟩⟩
theorem Drew.trans {w w1 w2 : World} (h : Drew w w1) (k : Drew w1 w2) : Drew w w2 := by
 obtain ⟨n, rfl⟩ := h.out
 obtain ⟨m, rfl⟩ := k.out
 exact ⟨⟨n + m, World.drewN_drewN ..⟩⟩
theorem Drew.below {w w' : World} (h : Drew w w') : Below w.heap.size w w' := by
 obtain ⟨n, rfl⟩ := h.out
 have core : ∀ n, Below w.heap.size w (w.drewN n) := by
  intro n
  induction n with
  | zero => exact Below.refl _ _
  | succ n ih => rw [← World.drew_drewN]; exact ih.drew
 exact core n
theorem Drew.to_below {w0 w w' : World} (h0 : Below w0.heap.size w0 w) (h : Drew w w') : Below w0.heap.size w0 w' := by
 obtain ⟨n, rfl⟩ := h.out
 have core : ∀ n, Below w0.heap.size w0 (w.drewN n) := by
  intro n
  induction n with
  | zero => exact h0
  | succ n ih => rw [← World.drew_drewN]; exact ih.drew
 exact core n
structure FOp (op : BinOp) (x y r : Nat) : Prop where mk :: (lt : r < 18446744073709551616) (val : ∀ v, floatBits op .f64 x y = some v → r = v) (nan : floatBits op .f64 x y = none → 9218868437227405312 < r % 9223372036854775808)
theorem nan_cut (x y t : Nat) : (Question.nanBits .f64 x y).cut t < 18446744073709551616 ∧ 9218868437227405312 < (Question.nanBits .f64 x y).cut t % 9223372036854775808 := by
 show (t % 2) * 2 ^ 63 + 0x7ff0000000000000 + 1 + (t / 2) % (2 ^ 52 - 1) < _ ∧ _ < ((t % 2) * 2 ^ 63 + 0x7ff0000000000000 + 1 + (t / 2) % (2 ^ 52 - 1)) % _
 have h1 := Nat.mod_lt t (show 0 < 2 by decide)
 have h2 := Nat.mod_lt (t / 2) (show 0 < 2 ^ 52 - 1 by decide)
 generalize t / 2 % (2 ^ 52 - 1) = m at *
 generalize t % 2 = s at *
 omega
theorem run_fop {P : Program} (op : BinOp) (t : TypeId) (x y : Nat) (w : World) (h : op = .add ∨ op = .sub ∨ op = .mul ∨ op = .quo) :
  ∃ r w', (binOp op t (.float .f64 x) (.float .f64 y)).run P w = .ok (.float .f64 r) w' ∧ FOp op x y r ∧ Drew w w' := by
 have hf : (Question.nanBits FloatKind.f64 x y).forced = false := rfl
 rcases hb : floatBits op FloatKind.f64 x y with _ | r
 ·refine ⟨(Question.nanBits .f64 x y).cut (w.tape w.drawn (.nanBits .f64 x y)), w.drew, ?_, ⟨(nan_cut _ _ _).1, fun v hv => by (rw [hb] at hv; cases hv), fun _ => (nan_cut _ _ _).2⟩, ⟨⟨1, rfl⟩⟩⟩
  rcases h with rfl | rfl | rfl | rfl
  all_goals
   unfold floatBits at hb
   simp [binOp, Op.floatArith, hb, hf]
 ·refine ⟨r, w, run_float_arith w op t .f64 x y r hb, ⟨?_, fun v hv => by (rw [hb] at hv; injection hv), fun hn => by (rw [hb] at hn; cases hn)⟩, Drew.refl w⟩
  have := floatBits_wf hb
  simpa [Lit.wf] using this
section
variable {P : Program} {ops : Array Oper} {rest : List Oper} {o : Oper} {a : Act} {Q : Exit → Act → World → Prop} {w : World}
theorem wpList_fop (op : BinOp) (hop : op = .add ∨ op = .sub ∨ op = .mul ∨ op = .quo) (hgd : o.guard = none) {t ty : TypeId} {xo yo : Operand} (ho : o.op = .binOp op t xo yo ty) {X Y : Nat} (hx : a.eval xo = .float .f64 X) (hy : a.eval yo = .float .f64 Y)
  (h : ∀ r w1, FOp op X Y r → Drew w w1 → wpList P ops Q rest (a.put o.dst (.float .f64 r)) w1) : wpList P ops Q (o :: rest) a w := by
 obtain ⟨r, w1, hr, h1, h2⟩ := run_fop (P := P) op t X Y w hop
 refine wpList_plain hgd fun K hK => ?_
 unfold Oper.wp
 have hg : (eqGuard op t xo yo (.float .f64 X) (.float .f64 Y)).run P w = .ok () w := by
  rcases hop with rfl | rfl | rfl | rfl <;> rfl
 simp [execOp, ho, hx, hy, hg, hr, Result.andThen]
 exact hK _ _ (h r w1 h1 h2)
end
end Go.Proofs.YtelfmddcjlocpaaDoor.FW
end
section
namespace Go.Proofs.YtelfmddcjlocpaaDoor.Eft
open Go.RowKit Go.Proofs.YtelfmddcjlocpaaDoor.FW
theorem call_from (n : Int) (w : World) : (callFunc 30 #[.int .u64 n]).run Tryd.prog w = .ok (.value (.float .f64 n.toNat)) w := by
 rw [run_callFunc_extern (P := Tryd.prog) (f := 30) (fn := Tryd.f30) (e := Extern.MathFloatBits.float64frombits) (by kernel_rfl) (by kernel_rfl) (by kernel_rfl) (by kernel_rfl) (by kernel_rfl)]
 rfl
theorem call_bits (b : Nat) (w : World) : (callFunc 57 #[.float .f64 b]).run Tryd.prog w = .ok (.value (.int .u64 b)) w := by
 rw [run_callFunc_extern (P := Tryd.prog) (f := 57) (fn := Tryd.f57) (e := Extern.MathFloatBits.float64bits) (by kernel_rfl) (by kernel_rfl) (by kernel_rfl) (by kernel_rfl) (by kernel_rfl)]
 rfl
end Go.Proofs.YtelfmddcjlocpaaDoor.Eft
end
