/- What the printed functions of rounding answer: Bit, Word, NearShr, Shl, the size to which a number rounds, Nearest, Decide. Plain Lean over the printed functions. Conditions: numbers in form. What the printed rounding answers: the pattern of the nearest size. Plain Lean over the printed functions. Conditions: numbers in form. -/
import Derived.Test.YtapikmfckpgjoaaDoorKDdOrderRp1
import Derived.Test.YtapikmfckpgjoaaDoorKDdOrderPxL0
section
namespace Go.Proofs.YtapikmfckpgjoaaDoor.Rp2
open Go.RowKit Go.Proofs.YtapikmfckpgjoaaDoorW.PrintWords Go.Proofs.YtapikmfckpgjoaaDoorW.PrintMore Go.Proofs.YtapikmfckpgjoaaDoor.Num Go.Proofs.YtapikmfckpgjoaaDoor.PLib Go.Proofs.YtapikmfckpgjoaaDoor.Ref Go.Proofs.YtapikmfckpgjoaaDoor.GTh Go.Proofs.YtapikmfckpgjoaaDoor.Given Go.Proofs.YtapikmfckpgjoaaDoor.Rp1 Go.Proofs.YtapikmfckpgjoaaDoor.BinLaw Go.Proofs.YtapikmfckpgjoaaDoor.Fm8 Go.Proofs.YtapikmfckpgjoaaDoor.Rnd
theorem word_f (n : Nat) (h : n < 18446744073709551616) : nat_Word.f (n : Int) = some (lb n) := by
 unfold nat_Word.f
 by_cases c : n = 0
 ·rw [if_pos (by omega), c]; rfl
 ·rw [if_neg (by omega)]
  have e1 := nl_one c h
  have e2 : dw n 0 = n := by unfold dw; rw [pw_zero, Nat.div_one]; omega
  unfold lb
  rw [e1]
  simp [List.range_succ, e2]
theorem told_f (neg : Bool) (m : Nat) : num_told.f neg (lb m) 0 = some (neg && decide (m ≠ 0), lb m, 0) := by
 have e : decide (((lb m).length : Int) > 0) = decide (m ≠ 0) := by
  rw [lb_len]
  by_cases c : m = 0
  ·rw [c]; rfl
  ·have := nl_pos c
   rw [decide_eq_true (show m ≠ 0 from c), decide_eq_true (by omega)]
 unfold num_told.f num_whole.f
 rw [if_pos rfl]
 cases neg
 ·rfl
 ·rw [if_pos rfl, e]; simp
theorem add_f {m n : Nat} (h : nl m ≤ 8192) (h' : nl n ≤ 8192) (h2 : nl (m + n) ≤ 8192) : nat_Add.f (lb m) (lb n) = some (lb (m + n), 0) := by
 unfold nat_Add.f
 rw [vL_lb, vL_lb, if_pos ⟨fmL_lb h, fmL_lb h', h2⟩]
theorem shr_f {m n : Nat} (h : nl m ≤ 8192) (hn : n < 9223372036854775808) : nat_Shr.f (lb m) (n : Int) = some (lb (m / 2^n), 0) := by
 unfold nat_Shr.f
 rw [vL_lb, if_pos ⟨fmL_lb h, by omega, by omega⟩, Int.toNat_natCast]
theorem trail_f {m : Nat} (h : nl m ≤ 8192) (h0 : m ≠ 0) : nat_Trail.f (lb m) = some ((tz m : Nat) : Int) := by
 unfold nat_Trail.f
 rw [vL_lb, if_pos ⟨fmL_lb h, h0⟩]
theorem numForm_lb {neg : Bool} {m : Nat} (h : nl m ≤ 8192) (h0 : m = 0 → neg = false) : num_Form.f neg (lb m) = some true := by
 rw [numForm_f, nfm_lb h, lb_len]
 by_cases c : m = 0
 ·rw [h0 c]; rfl
 ·have := nl_pos c
  rw [decide_eq_false (by omega)]; simp
end Go.Proofs.YtapikmfckpgjoaaDoor.Rp2
end
section
namespace Go.Proofs.YtapikmfckpgjoaaDoor.Rp3
open Go.RowKit Go.Proofs.YtapikmfckpgjoaaDoorW.PrintWords Go.Proofs.YtapikmfckpgjoaaDoorW.PrintMore Go.Proofs.YtapikmfckpgjoaaDoor.Num Go.Proofs.YtapikmfckpgjoaaDoor.PLib Go.Proofs.YtapikmfckpgjoaaDoor.Ref Go.Proofs.YtapikmfckpgjoaaDoor.GTh Go.Proofs.YtapikmfckpgjoaaDoor.Given Go.Proofs.YtapikmfckpgjoaaDoor.Rp1 Go.Proofs.YtapikmfckpgjoaaDoor.Rp2 Go.Proofs.YtapikmfckpgjoaaDoor.BinLaw Go.Proofs.YtapikmfckpgjoaaDoor.Fm8 Go.Proofs.YtapikmfckpgjoaaDoor.Rnd
theorem numShl_f {neg : Bool} {m n : Nat} (h : nl m ≤ 8192) (h0 : m = 0 → neg = false) (hn : m = 0 ∨ bl m + n ≤ 524288) : num_Shl.f neg (lb m) (n : Int) = some (neg, lb (m * 2^n), 0) := by
 unfold num_Shl.f
 rw [if_neg (by omega), numForm_lb h h0, shl_f h hn]
 simp only [Option.bind_some, if_true]
 rw [told_f]
 by_cases c : m = 0
 ·rw [h0 c]; rfl
 ·have : m * 2^n ≠ 0 := Nat.mul_ne_zero c (Nat.pos_iff_ne_zero.1 (Nat.two_pow_pos n))
  rw [decide_eq_true this, Bool.and_true]; rfl
def pat (F : Fmt) (neg : Bool) (s : Nat) : Nat := if neg then F.sg + s else s
end Go.Proofs.YtapikmfckpgjoaaDoor.Rp3
end
