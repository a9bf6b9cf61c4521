/- What the printed functions on dyadics answer: Form (the program's and the reference's), Sign, top, size, Cmp. Plain Lean over the printed functions. Conditions: lists of words. What the printed functions of rounding answer: Bit, Word, NearShr, Shl, the size to which a number rounds, Nearest, Decide. Plain Lean over the printed functions. Conditions: numbers in form. What the printed rounding answers: the pattern of the nearest size. Plain Lean over the printed functions. Conditions: numbers in form. The order of dyadics as the order of their values; Decide; calls on given numbers. Plain Lean over the printed functions. Conditions: numbers in form. -/
import Derived.Test.YtokoadgahflafaaGreatDoorKSoftFixedRnd
import Derived.Test.YtokoadgahflafaaGreatDoorKSoftFixedGivenD
import Derived.Test.YtokoadgahflafaaGreatDoorKSoftFixedBl
import Derived.Test.YtokoadgahflafaaGreatDoorKSoftFixedPxL0
import Derived.Test.YtokoadgahflafaaGreatDoorKSoftFixedPxR0
section
namespace Go.Proofs.YtokoadgahflafaaGreatDoor.Rp1
open Go.RowKit Go.Proofs.YtokoadgahflafaaGreatDoorW.PrintWords Go.Proofs.YtokoadgahflafaaGreatDoorW.PrintMore Go.Proofs.YtokoadgahflafaaGreatDoor.Num Go.Proofs.YtokoadgahflafaaGreatDoor.PLib Go.Proofs.YtokoadgahflafaaGreatDoor.Ref Go.Proofs.YtokoadgahflafaaGreatDoor.GTh Go.Proofs.YtokoadgahflafaaGreatDoor.Given
theorem Ev.succ {α : Type} {g : Nat → Option α} {r : α} (h : Ev (fun k => g (k + 1)) r) : Ev g r := Ev.step (f := fun k => g (k + 1)) (fun _ => rfl) h
theorem lb_rd {x j : Nat} (h : j < nl x) : rd (lb x) (j : Int) = ((dw x j : Nat) : Int) := by
 unfold Go.Proofs.YtokoadgahflafaaGreatDoorW.PrintWords.rd
 rw [Int.toNat_natCast, List.getD_eq_getElem?_getD, lb_at h]; rfl
def nfm (l : List Int) : Bool := decide (l.length ≤ 8192) && (decide (l.length = 0) || (rd l (((l.length - 1 : Nat) : Int)) != 0))
theorem natForm_f (l : List Int) : nat_Form.f l = some (nfm l) := by
 unfold nat_Form.f nfm
 by_cases c : l.length ≤ 8192
 ·rw [if_pos (by omega), decide_eq_true c, Bool.true_and]
  by_cases c0 : l.length = 0
  ·rw [if_pos (by omega), decide_eq_true c0, Bool.true_or]
  ·have e : wrap64 ((l.length : Int) - 1) = ((l.length - 1 : Nat) : Int) := by rw [w64 (by omega) (by omega)]; omega
   rw [if_neg (by omega), e, if_pos (by omega), if_pos (by omega), decide_eq_false c0, Bool.false_or]
 ·rw [if_neg (by omega), decide_eq_false c, Bool.false_and]
theorem nfm_lb {m : Nat} (h : nl m ≤ 8192) : nfm (lb m) = true := by
 unfold nfm
 rw [lb_len, decide_eq_true h, Bool.true_and]
 by_cases c : m = 0
 ·rw [c]; rfl
 ·have p := nl_pos c
  have t := nl_top c
  rw [decide_eq_false (by omega), Bool.false_or, lb_rd (by omega)]
  simpa using t
theorem cmp_f {m n : Nat} (h : nl m < 1099511627776) (h' : nl n < 1099511627776) : nat_Cmp.f (lb m) (lb n) = some (cmI m n) := by
 unfold nat_Cmp.f
 rw [if_pos ⟨okL_lb h, okL_lb h'⟩, vL_lb, vL_lb]
end Go.Proofs.YtokoadgahflafaaGreatDoor.Rp1
end
section
namespace Go.Proofs.YtokoadgahflafaaGreatDoor.Rp2
open Go.RowKit Go.Proofs.YtokoadgahflafaaGreatDoorW.PrintWords Go.Proofs.YtokoadgahflafaaGreatDoorW.PrintMore Go.Proofs.YtokoadgahflafaaGreatDoor.Num Go.Proofs.YtokoadgahflafaaGreatDoor.PLib Go.Proofs.YtokoadgahflafaaGreatDoor.Ref Go.Proofs.YtokoadgahflafaaGreatDoor.GTh Go.Proofs.YtokoadgahflafaaGreatDoor.Given Go.Proofs.YtokoadgahflafaaGreatDoor.Rp1 Go.Proofs.YtokoadgahflafaaGreatDoor.BinLaw Go.Proofs.YtokoadgahflafaaGreatDoor.Fm8 Go.Proofs.YtokoadgahflafaaGreatDoor.Rnd
theorem word_f (n : Nat) (h : n < 18446744073709551616) : nat_Word.f (n : Int) = some (lb n) := by
 unfold nat_Word.f
 by_cases c : n = 0
 ·rw [if_pos (by omega), c]; rfl
 ·rw [if_neg (by omega)]
  have e1 := nl_one c h
  have e2 : dw n 0 = n := by unfold dw; rw [pw_zero, Nat.div_one]; omega
  unfold lb
  rw [e1]
  simp [List.range_succ, e2]
theorem add_f {m n : Nat} (h : nl m ≤ 8192) (h' : nl n ≤ 8192) (h2 : nl (m + n) ≤ 8192) : nat_Add.f (lb m) (lb n) = some (lb (m + n), 0) := by
 unfold nat_Add.f
 rw [vL_lb, vL_lb, if_pos ⟨fmL_lb h, fmL_lb h', h2⟩]
theorem shr_f {m n : Nat} (h : nl m ≤ 8192) (hn : n < 9223372036854775808) : nat_Shr.f (lb m) (n : Int) = some (lb (m / 2^n), 0) := by
 unfold nat_Shr.f
 rw [vL_lb, if_pos ⟨fmL_lb h, by omega, by omega⟩, Int.toNat_natCast]
end Go.Proofs.YtokoadgahflafaaGreatDoor.Rp2
end
section
namespace Go.Proofs.YtokoadgahflafaaGreatDoor.Rp3
open Go.RowKit Go.Proofs.YtokoadgahflafaaGreatDoorW.PrintWords Go.Proofs.YtokoadgahflafaaGreatDoorW.PrintMore Go.Proofs.YtokoadgahflafaaGreatDoor.Num Go.Proofs.YtokoadgahflafaaGreatDoor.PLib Go.Proofs.YtokoadgahflafaaGreatDoor.Ref Go.Proofs.YtokoadgahflafaaGreatDoor.GTh Go.Proofs.YtokoadgahflafaaGreatDoor.Given Go.Proofs.YtokoadgahflafaaGreatDoor.Rp1 Go.Proofs.YtokoadgahflafaaGreatDoor.Rp2 Go.Proofs.YtokoadgahflafaaGreatDoor.BinLaw Go.Proofs.YtokoadgahflafaaGreatDoor.Fm8 Go.Proofs.YtokoadgahflafaaGreatDoor.Rnd
def pat (F : Fmt) (neg : Bool) (s : Nat) : Nat := if neg then F.sg + s else s
end Go.Proofs.YtokoadgahflafaaGreatDoor.Rp3
end
section
namespace Go.Proofs.YtokoadgahflafaaGreatDoor.Rp4
open Go.RowKit Go.Proofs.YtokoadgahflafaaGreatDoorW.PrintWords Go.Proofs.YtokoadgahflafaaGreatDoorW.PrintMore Go.Proofs.YtokoadgahflafaaGreatDoor.Num Go.Proofs.YtokoadgahflafaaGreatDoor.PLib Go.Proofs.YtokoadgahflafaaGreatDoor.Ref Go.Proofs.YtokoadgahflafaaGreatDoor.GTh Go.Proofs.YtokoadgahflafaaGreatDoor.Given Go.Proofs.YtokoadgahflafaaGreatDoor.Rp1 Go.Proofs.YtokoadgahflafaaGreatDoor.Rp2 Go.Proofs.YtokoadgahflafaaGreatDoor.Rp3 Go.Proofs.YtokoadgahflafaaGreatDoor.BinLaw Go.Proofs.YtokoadgahflafaaGreatDoor.Fm8 Go.Proofs.YtokoadgahflafaaGreatDoor.Rnd
def vs (neg : Bool) (m : Nat) (x E : Int) : Int := if neg then -((m * 2^(x - E).toNat : Nat) : Int) else ((m * 2^(x - E).toNat : Nat) : Int)
def pv (F : Fmt) (g : Nat) (V : Int) : Nat := if V = 0 then 0 else pat F (decide (V < 0)) (rsz F g V.natAbs)
end Go.Proofs.YtokoadgahflafaaGreatDoor.Rp4
end
