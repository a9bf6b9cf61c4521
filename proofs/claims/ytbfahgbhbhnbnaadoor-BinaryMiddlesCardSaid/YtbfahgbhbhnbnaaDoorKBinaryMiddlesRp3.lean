/- What the printed rounding answers: the pattern of the nearest size. Plain Lean over the printed functions. Conditions: numbers in form. -/
import Derived.Test.YtbfahgbhbhnbnaaDoorKBinaryMiddlesRp2
import Derived.Test.YtbfahgbhbhnbnaaDoorKBinaryMiddlesPxL0
namespace Go.Proofs.YtbfahgbhbhnbnaaDoor.Rp3
open Go.RowKit Go.Proofs.YtbfahgbhbhnbnaaDoorW.PrintWords Go.Proofs.YtbfahgbhbhnbnaaDoorW.PrintMore Go.Proofs.YtbfahgbhbhnbnaaDoor.Num Go.Proofs.YtbfahgbhbhnbnaaDoor.PLib Go.Proofs.YtbfahgbhbhnbnaaDoor.Ref Go.Proofs.YtbfahgbhbhnbnaaDoor.GTh Go.Proofs.YtbfahgbhbhnbnaaDoor.Given Go.Proofs.YtbfahgbhbhnbnaaDoor.Rp1 Go.Proofs.YtbfahgbhbhnbnaaDoor.Rp2 Go.Proofs.YtbfahgbhbhnbnaaDoor.BinLaw Go.Proofs.YtbfahgbhbhnbnaaDoor.Fm8
theorem numShl_f {neg : Bool} {m n : Nat} (h : nl m ≤ 8192) (h0 : m = 0 → neg = false) (hn : m = 0 ∨ bl m + n ≤ 524288) : num_Shl.f neg (lb m) (n : Int) = some (neg, lb (m * 2^n), 0) := by
 unfold num_Shl.f
 rw [if_neg (by omega), numForm_lb h h0, shl_f h hn]
 simp only [Option.bind_some, if_true]
 rw [told_f]
 by_cases c : m = 0
 ·rw [h0 c]; rfl
 ·have : m * 2^n ≠ 0 := Nat.mul_ne_zero c (Nat.pos_iff_ne_zero.1 (Nat.two_pow_pos n))
  rw [decide_eq_true this, Bool.and_true]; rfl
def pat (F : Fmt) (neg : Bool) (s : Nat) : Nat := if neg then F.sg + s else s
end Go.Proofs.YtbfahgbhbhnbnaaDoor.Rp3
