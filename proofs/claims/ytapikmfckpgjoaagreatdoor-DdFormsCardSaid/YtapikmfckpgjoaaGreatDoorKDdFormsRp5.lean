/- What the printed functions on dyadics answer: Form (the program's and the reference's), Sign, top, size, Cmp. Plain Lean over the printed functions. Conditions: lists of words. What the printed functions of rounding answer: Bit, Word, NearShr, Shl, the size to which a number rounds, Nearest, Decide. Plain Lean over the printed functions. Conditions: numbers in form. What the printed rounding answers: the pattern of the nearest size. Plain Lean over the printed functions. Conditions: numbers in form. The order of dyadics as the order of their values; Decide; calls on given numbers. Plain Lean over the printed functions. Conditions: numbers in form. What the printed functions of a format answer: take, finite, parts, classes, midpoints, cells, neighbours, ranks. Plain Lean over the printed functions. Conditions: words below 2^64. -/
import Derived.Test.YtapikmfckpgjoaaGreatDoorKDdFormsRnd
import Derived.Test.YtapikmfckpgjoaaGreatDoorKDdFormsGivenD
import Derived.Test.YtapikmfckpgjoaaGreatDoorKDdFormsNum
import Derived.Test.YtapikmfckpgjoaaGreatDoorKDdFormsPxL0
section
namespace Go.Proofs.YtapikmfckpgjoaaGreatDoor.Rp1
open Go.RowKit Go.Proofs.YtapikmfckpgjoaaGreatDoorW.PrintWords Go.Proofs.YtapikmfckpgjoaaGreatDoorW.PrintMore Go.Proofs.YtapikmfckpgjoaaGreatDoor.Num Go.Proofs.YtapikmfckpgjoaaGreatDoor.PLib Go.Proofs.YtapikmfckpgjoaaGreatDoor.Ref Go.Proofs.YtapikmfckpgjoaaGreatDoor.GTh Go.Proofs.YtapikmfckpgjoaaGreatDoor.Given
theorem Ev.succ {α : Type} {g : Nat → Option α} {r : α} (h : Ev (fun k => g (k + 1)) r) : Ev g r := Ev.step (f := fun k => g (k + 1)) (fun _ => rfl) h
theorem lb_rd {x j : Nat} (h : j < nl x) : rd (lb x) (j : Int) = ((dw x j : Nat) : Int) := by
 unfold Go.Proofs.YtapikmfckpgjoaaGreatDoorW.PrintWords.rd
 rw [Int.toNat_natCast, List.getD_eq_getElem?_getD, lb_at h]; rfl
theorem dw_odd {m : Nat} (h : m % 2 = 1) : dw m 0 % 2 = 1 := by unfold dw; rw [pw_zero, Nat.div_one]; omega
theorem and_one (n : Nat) (h : n < 18446744073709551616) : Go.bits .and .u64 (n : Int) 1 = ((n % 2 : Nat) : Int) := by
 have := u64_and_nat n 1 h (by decide)
 rw [Nat.and_one_is_mod] at this
 exact this
def nfm (l : List Int) : Bool := decide (l.length ≤ 8192) && (decide (l.length = 0) || (rd l (((l.length - 1 : Nat) : Int)) != 0))
theorem natForm_f (l : List Int) : nat_Form.f l = some (nfm l) := by
 unfold nat_Form.f nfm
 by_cases c : l.length ≤ 8192
 ·rw [if_pos (by omega), decide_eq_true c, Bool.true_and]
  by_cases c0 : l.length = 0
  ·rw [if_pos (by omega), decide_eq_true c0, Bool.true_or]
  ·have e : wrap64 ((l.length : Int) - 1) = ((l.length - 1 : Nat) : Int) := by rw [w64 (by omega) (by omega)]; omega
   rw [if_neg (by omega), e, if_pos (by omega), if_pos (by omega), decide_eq_false c0, Bool.false_or]
 ·rw [if_neg (by omega), decide_eq_false c, Bool.false_and]
def dyB (neg : Bool) (l : List Int) (x : Int) : Bool := if nfm l = true ∧ -1048576 ≤ x ∧ x ≤ 1048576 then (if l.length = 0 then (!neg && (x == 0)) else (Go.bits .and .u64 (rd l 0) 1 == 1)) else false
theorem numForm_f (neg : Bool) (l : List Int) : num_Form.f neg l = some (nfm l && !(neg && decide (l.length = 0))) := by
 unfold num_Form.f
 rw [natForm_f]
 simp only [Option.bind_some]
 cases hn : nfm l
 ·rfl
 ·simp only [if_true]
  cases neg
  ·rfl
  ·rw [if_pos rfl, Bool.true_and, Bool.true_and]
   by_cases c : l.length = 0
   ·rw [decide_eq_true c, c]; rfl
   ·rw [decide_eq_false c, show ((l.length : Int) == 0) = false by simpa using c]
theorem form_ev (neg : Bool) (l : List Int) (x : Int) : Ev (fun k => dyadic_Form.f k neg l x) (dyB neg l x) := by
 have hj : ∀ b : Bool, (b = true → dyB neg l x = false) → (b = false → dyB neg l x = (if l.length = 0 then (!neg && (x == 0)) else (Go.bits .and .u64 (rd l 0) 1 == 1)) ∧ (l.length = 0 → neg = false)) → Ev (fun k => dyadic_Form.j0 k b neg l x) (dyB neg l x) := by
  intro b hb1 hb2
  refine Ev.step (f := fun _ => some (dyB neg l x)) (fun k => ?_) (Ev.now _)
  rw [dyadic_Form.j0]
  cases b
  ·obtain ⟨e, e0⟩ := hb2 rfl
   rw [if_neg (by decide), e]
   by_cases c : l.length = 0
   ·have : dyadic_nought.f neg l x = some true := by unfold dyadic_nought.f; rw [c]; rfl
    rw [this, if_pos c, e0 c]
    simp
   ·have : dyadic_nought.f neg l x = some false := by unfold dyadic_nought.f; rw [show ((l.length : Int) == 0) = false by simpa using c]
    rw [this, if_neg c]
    simp only [Option.bind_some]
    rw [if_neg (by decide), if_pos (by omega)]
  ·rw [if_pos rfl, hb1 rfl]
 unfold dyadic_Form.f
 rw [numForm_f]
 simp only [Option.bind_some]
 cases hn : nfm l
 ·rw [Bool.false_and]
  refine Ev.congr (fun k => if_neg (by decide)) (hj true (fun _ => ?_) (fun h => by cases h))
  unfold dyB
  rw [hn, if_neg (by simp)]
 ·rw [Bool.true_and]
  cases hz : (neg && decide (l.length = 0))
  ·refine Ev.congr (fun k => if_pos (by decide)) ?_
   have hz' : l.length = 0 → neg = false := fun c => by
    rw [decide_eq_true c, Bool.and_true] at hz; exact hz
   by_cases c1 : x < -1048576
   ·refine Ev.congr (fun k => if_pos c1) (hj true (fun _ => ?_) (fun h => by cases h))
    unfold dyB
    rw [if_neg (by omega)]
   ·refine Ev.congr (fun k => if_neg c1) (hj _ (fun h => ?_) (fun h => ?_))
    ·have := of_decide_eq_true h
     unfold dyB
     rw [if_neg (by omega)]
    ·have := of_decide_eq_false h
     refine ⟨?_, hz'⟩
     unfold dyB
     rw [if_pos ⟨hn, by omega, by omega⟩]
  ·refine Ev.congr (fun k => if_neg (by decide)) (hj true (fun _ => ?_) (fun h => by cases h))
   rw [Bool.and_eq_true] at hz
   have := of_decide_eq_true hz.2
   unfold dyB
   rw [hz.1]
   split
   ·first | rfl | (rw [if_pos this]; rfl)
   ·rfl
structure Dk (neg : Bool) (m : Nat) (x : Int) : Prop where mk :: (lim : nl m ≤ 8192) (zero : m = 0 → neg = false ∧ x = 0) (odd : m ≠ 0 → m % 2 = 1) (low : -1048576 ≤ x) (high : x ≤ 1048576)
theorem nfm_lb {m : Nat} (h : nl m ≤ 8192) : nfm (lb m) = true := by
 unfold nfm
 rw [lb_len, decide_eq_true h, Bool.true_and]
 by_cases c : m = 0
 ·rw [c]; rfl
 ·have p := nl_pos c
  have t := nl_top c
  rw [decide_eq_false (by omega), Bool.false_or, lb_rd (by omega)]
  simpa using t
theorem dyB_lb {neg : Bool} {m : Nat} {x : Int} (h : Dk neg m x) : dyB neg (lb m) x = true := by
 unfold dyB
 rw [if_pos ⟨nfm_lb h.lim, h.low, h.high⟩, lb_len]
 by_cases c : m = 0
 ·obtain ⟨rfl, rfl⟩ := h.zero c
  rw [c]; rfl
 ·have p := nl_pos c
  have e := lb_rd (x := m) (j := 0) p
  rw [if_neg (by omega), show (0 : Int) = ((0 : Nat) : Int) from rfl, e, and_one _ (dw_lt _ _), dw_odd (h.odd c)]
  rfl
def sgn (neg : Bool) (m : Nat) : Int := if m = 0 then 0 else if neg then -1 else 1
theorem bits_f {m : Nat} (h : nl m ≤ 8192) : nat_Bits.f (lb m) = some ((bl m : Nat) : Int) := by
 unfold nat_Bits.f
 rw [if_pos (okL_lb (by omega)), vL_lb]
theorem sign_f (neg : Bool) {m : Nat} (h : nl m ≤ 8192) : num_Sign.f neg (lb m) = some (sgn neg m) := by
 unfold num_Sign.f sgn
 rw [bits_f h]
 simp only [Option.bind_some]
 by_cases c : m = 0
 ·rw [if_pos c, c]; rfl
 ·have := bl_pos c
  rw [if_neg (by omega), if_neg c]
  cases neg <;> rfl
theorem shl_f {m n : Nat} (h : nl m ≤ 8192) (hn : m = 0 ∨ bl m + n ≤ 524288) : nat_Shl.f (lb m) (n : Int) = some (lb (m * 2^n), 0) := by
 unfold nat_Shl.f
 rw [vL_lb, if_pos ⟨fmL_lb h, by omega, by rw [Int.toNat_natCast]; exact hn⟩, Int.toNat_natCast]
theorem cmp_f {m n : Nat} (h : nl m < 1099511627776) (h' : nl n < 1099511627776) : nat_Cmp.f (lb m) (lb n) = some (cmI m n) := by
 unfold nat_Cmp.f
 rw [if_pos ⟨okL_lb h, okL_lb h'⟩, vL_lb, vL_lb]
def szc (m : Nat) (x : Int) (m' : Nat) (x' : Int) : Int := cmI (m * 2^(x - min x x').toNat) (m' * 2^(x' - min x x').toNat)
theorem cmI_lt {x y : Nat} (h : x < y) : cmI x y = -1 := if_pos h
theorem cmI_gt {x y : Nat} (h : y < x) : cmI x y = 1 := by unfold cmI; rw [if_neg (by omega), if_pos h]
theorem szc_top {m m' : Nat} {x x' : Int} (h0 : m ≠ 0) (h0' : m' ≠ 0) (h : x + (bl m : Nat) < x' + (bl m' : Nat)) : m * 2^(x - min x x').toNat < m' * 2^(x' - min x x').toNat := by
 have h1 : bl (m * 2^(x - min x x').toNat) = bl m + (x - min x x').toNat := bl_mul m _ h0
 have h2 : bl (m' * 2^(x' - min x x').toNat) = bl m' + (x' - min x x').toNat := bl_mul m' _ h0'
 by_cases c : m * 2^(x - min x x').toNat < m' * 2^(x' - min x x').toNat
 ·exact c
 ·have h3 := bl_mono (show m' * 2^(x' - min x x').toNat ≤ m * 2^(x - min x x').toNat by omega)
  omega
end Go.Proofs.YtapikmfckpgjoaaGreatDoor.Rp1
end
section
namespace Go.Proofs.YtapikmfckpgjoaaGreatDoor.Rp2
open Go.RowKit Go.Proofs.YtapikmfckpgjoaaGreatDoorW.PrintWords Go.Proofs.YtapikmfckpgjoaaGreatDoorW.PrintMore Go.Proofs.YtapikmfckpgjoaaGreatDoor.Num Go.Proofs.YtapikmfckpgjoaaGreatDoor.PLib Go.Proofs.YtapikmfckpgjoaaGreatDoor.Ref Go.Proofs.YtapikmfckpgjoaaGreatDoor.GTh Go.Proofs.YtapikmfckpgjoaaGreatDoor.Given Go.Proofs.YtapikmfckpgjoaaGreatDoor.Rp1 Go.Proofs.YtapikmfckpgjoaaGreatDoor.BinLaw Go.Proofs.YtapikmfckpgjoaaGreatDoor.Fm8 Go.Proofs.YtapikmfckpgjoaaGreatDoor.Rnd
theorem word_f (n : Nat) (h : n < 18446744073709551616) : nat_Word.f (n : Int) = some (lb n) := by
 unfold nat_Word.f
 by_cases c : n = 0
 ·rw [if_pos (by omega), c]; rfl
 ·rw [if_neg (by omega)]
  have e1 := nl_one c h
  have e2 : dw n 0 = n := by unfold dw; rw [pw_zero, Nat.div_one]; omega
  unfold lb
  rw [e1]
  simp [List.range_succ, e2]
theorem told_f (neg : Bool) (m : Nat) : num_told.f neg (lb m) 0 = some (neg && decide (m ≠ 0), lb m, 0) := by
 have e : decide (((lb m).length : Int) > 0) = decide (m ≠ 0) := by
  rw [lb_len]
  by_cases c : m = 0
  ·rw [c]; rfl
  ·have := nl_pos c
   rw [decide_eq_true (show m ≠ 0 from c), decide_eq_true (by omega)]
 unfold num_told.f num_whole.f
 rw [if_pos rfl]
 cases neg
 ·rfl
 ·rw [if_pos rfl, e]; simp
theorem add_f {m n : Nat} (h : nl m ≤ 8192) (h' : nl n ≤ 8192) (h2 : nl (m + n) ≤ 8192) : nat_Add.f (lb m) (lb n) = some (lb (m + n), 0) := by
 unfold nat_Add.f
 rw [vL_lb, vL_lb, if_pos ⟨fmL_lb h, fmL_lb h', h2⟩]
theorem shr_f {m n : Nat} (h : nl m ≤ 8192) (hn : n < 9223372036854775808) : nat_Shr.f (lb m) (n : Int) = some (lb (m / 2^n), 0) := by
 unfold nat_Shr.f
 rw [vL_lb, if_pos ⟨fmL_lb h, by omega, by omega⟩, Int.toNat_natCast]
theorem trail_f {m : Nat} (h : nl m ≤ 8192) (h0 : m ≠ 0) : nat_Trail.f (lb m) = some ((tz m : Nat) : Int) := by
 unfold nat_Trail.f
 rw [vL_lb, if_pos ⟨fmL_lb h, h0⟩]
theorem numForm_lb {neg : Bool} {m : Nat} (h : nl m ≤ 8192) (h0 : m = 0 → neg = false) : num_Form.f neg (lb m) = some true := by
 rw [numForm_f, nfm_lb h, lb_len]
 by_cases c : m = 0
 ·rw [h0 c]; rfl
 ·have := nl_pos c
  rw [decide_eq_false (by omega)]; simp
end Go.Proofs.YtapikmfckpgjoaaGreatDoor.Rp2
end
section
namespace Go.Proofs.YtapikmfckpgjoaaGreatDoor.Rp3
open Go.RowKit Go.Proofs.YtapikmfckpgjoaaGreatDoorW.PrintWords Go.Proofs.YtapikmfckpgjoaaGreatDoorW.PrintMore Go.Proofs.YtapikmfckpgjoaaGreatDoor.Num Go.Proofs.YtapikmfckpgjoaaGreatDoor.PLib Go.Proofs.YtapikmfckpgjoaaGreatDoor.Ref Go.Proofs.YtapikmfckpgjoaaGreatDoor.GTh Go.Proofs.YtapikmfckpgjoaaGreatDoor.Given Go.Proofs.YtapikmfckpgjoaaGreatDoor.Rp1 Go.Proofs.YtapikmfckpgjoaaGreatDoor.Rp2 Go.Proofs.YtapikmfckpgjoaaGreatDoor.BinLaw Go.Proofs.YtapikmfckpgjoaaGreatDoor.Fm8 Go.Proofs.YtapikmfckpgjoaaGreatDoor.Rnd
theorem numShl_f {neg : Bool} {m n : Nat} (h : nl m ≤ 8192) (h0 : m = 0 → neg = false) (hn : m = 0 ∨ bl m + n ≤ 524288) : num_Shl.f neg (lb m) (n : Int) = some (neg, lb (m * 2^n), 0) := by
 unfold num_Shl.f
 rw [if_neg (by omega), numForm_lb h h0, shl_f h hn]
 simp only [Option.bind_some, if_true]
 rw [told_f]
 by_cases c : m = 0
 ·rw [h0 c]; rfl
 ·have : m * 2^n ≠ 0 := Nat.mul_ne_zero c (Nat.pos_iff_ne_zero.1 (Nat.two_pow_pos n))
  rw [decide_eq_true this, Bool.and_true]; rfl
def pat (F : Fmt) (neg : Bool) (s : Nat) : Nat := if neg then F.sg + s else s
end Go.Proofs.YtapikmfckpgjoaaGreatDoor.Rp3
end
section
namespace Go.Proofs.YtapikmfckpgjoaaGreatDoor.Rp4
open Go.RowKit Go.Proofs.YtapikmfckpgjoaaGreatDoorW.PrintWords Go.Proofs.YtapikmfckpgjoaaGreatDoorW.PrintMore Go.Proofs.YtapikmfckpgjoaaGreatDoor.Num Go.Proofs.YtapikmfckpgjoaaGreatDoor.PLib Go.Proofs.YtapikmfckpgjoaaGreatDoor.Ref Go.Proofs.YtapikmfckpgjoaaGreatDoor.GTh Go.Proofs.YtapikmfckpgjoaaGreatDoor.Given Go.Proofs.YtapikmfckpgjoaaGreatDoor.Rp1 Go.Proofs.YtapikmfckpgjoaaGreatDoor.Rp2 Go.Proofs.YtapikmfckpgjoaaGreatDoor.Rp3 Go.Proofs.YtapikmfckpgjoaaGreatDoor.BinLaw Go.Proofs.YtapikmfckpgjoaaGreatDoor.Fm8 Go.Proofs.YtapikmfckpgjoaaGreatDoor.Rnd
def vs (neg : Bool) (m : Nat) (x E : Int) : Int := if neg then -((m * 2^(x - E).toNat : Nat) : Int) else ((m * 2^(x - E).toNat : Nat) : Int)
theorem szc_vs {m m' : Nat} {x x' E : Int} (h : E ≤ x) (h' : E ≤ x') : szc m x m' x' = cmI (m * 2^(x - E).toNat) (m' * 2^(x' - E).toNat) := by
 unfold szc
 obtain ⟨d, hd⟩ : ∃ d : Nat, d = (min x x' - E).toNat := ⟨_, rfl⟩
 have e1 : (x - E).toNat = (x - min x x').toNat + d := by omega
 have e2 : (x' - E).toNat = (x' - min x x').toNat + d := by omega
 rw [e1, e2, Nat.pow_add, Nat.pow_add, ← Nat.mul_assoc, ← Nat.mul_assoc]
 generalize m * 2^(x - min x x').toNat = a
 generalize m' * 2^(x' - min x x').toNat = b
 have p := Nat.two_pow_pos d
 have i1 : a * 2^d < b * 2^d ↔ a < b := ⟨fun h => Nat.lt_of_mul_lt_mul_right h, fun h => Nat.mul_lt_mul_of_pos_right h p⟩
 have i2 : b * 2^d < a * 2^d ↔ b < a := ⟨fun h => Nat.lt_of_mul_lt_mul_right h, fun h => Nat.mul_lt_mul_of_pos_right h p⟩
 unfold cmI
 simp only [i1, i2]
def cmZ (a b : Int) : Int := if a < b then -1 else if b < a then 1 else 0
def pv (F : Fmt) (g : Nat) (V : Int) : Nat := if V = 0 then 0 else pat F (decide (V < 0)) (rsz F g V.natAbs)
end Go.Proofs.YtapikmfckpgjoaaGreatDoor.Rp4
end
section
namespace Go.Proofs.YtapikmfckpgjoaaGreatDoor.Rp5
open Go.RowKit Go.Proofs.YtapikmfckpgjoaaGreatDoorW.PrintWords Go.Proofs.YtapikmfckpgjoaaGreatDoorW.PrintMore Go.Proofs.YtapikmfckpgjoaaGreatDoor.Num Go.Proofs.YtapikmfckpgjoaaGreatDoor.PLib Go.Proofs.YtapikmfckpgjoaaGreatDoor.Ref Go.Proofs.YtapikmfckpgjoaaGreatDoor.GTh Go.Proofs.YtapikmfckpgjoaaGreatDoor.Given Go.Proofs.YtapikmfckpgjoaaGreatDoor.Rp1 Go.Proofs.YtapikmfckpgjoaaGreatDoor.Rp2 Go.Proofs.YtapikmfckpgjoaaGreatDoor.Rp3 Go.Proofs.YtapikmfckpgjoaaGreatDoor.Rp4 Go.Proofs.YtapikmfckpgjoaaGreatDoor.BinLaw Go.Proofs.YtapikmfckpgjoaaGreatDoor.Fm8 Go.Proofs.YtapikmfckpgjoaaGreatDoor.Rnd
abbrev tk (F : Fmt) (neg : Bool) (s : Nat) (e : Int) : Int × Int × Int × Int × Bool × Int × Int := (F.wd, F.man, F.low, F.qt, neg, s, e)
theorem sign_f {f : Int} {F : Fmt} (h : Fm f F) : binary_shape_sign.f (F.wd : Nat) (F.man : Nat) F.low (F.qt : Nat) = some ((F.sg : Nat) : Int) := by
 rcases h with ⟨_, rfl⟩ | ⟨_, rfl⟩ <;> decide +kernel
theorem hidden_f {f : Int} {F : Fmt} (h : Fm f F) : binary_shape_hidden.f (F.wd : Nat) (F.man : Nat) F.low (F.qt : Nat) = some ((hdF F : Nat) : Int) := by
 rcases h with ⟨_, rfl⟩ | ⟨_, rfl⟩ <;> decide +kernel
theorem binf_f {f : Int} {F : Fmt} (h : Fm f F) : binary_shape_inf.f (F.wd : Nat) (F.man : Nat) F.low (F.qt : Nat) = some ((F.inf : Nat) : Int) := by
 rcases h with ⟨_, rfl⟩ | ⟨_, rfl⟩ <;> decide +kernel
theorem take_j {f : Int} {F : Fmt} (h : Fm f F) (k b : Nat) : binary_take.f k f (b : Int) = binary_take.j0 k (b : Int) (if F.wd = 32 then ((shr .u64 (b : Int) 32) != 0) else false) (F.wd : Nat) (F.man : Nat) F.low (F.qt : Nat) := by
 rcases h with ⟨rfl, rfl⟩ | ⟨rfl, rfl⟩ <;> rfl
theorem high_bits {f : Int} {F : Fmt} (h : Fm f F) (b : Nat) (hb : b < 18446744073709551616) : (if F.wd = 32 then ((shr .u64 (b : Int) 32) != 0) else false) = decide (2 * F.sg ≤ b) := by
 rcases h with ⟨rfl, rfl⟩ | ⟨rfl, rfl⟩
 ·have e : shr .u64 (b : Int) 32 = ((b / 4294967296 : Nat) : Int) := by
   have h2 := shr_small (k := .u64) (x := (b : Int)) (y := 32) rfl (by decide)
   rw [← h2]; rfl
  show ((shr .u64 (b : Int) 32) != 0) = decide (2 * 2147483648 ≤ b)
  rw [e]
  by_cases c : 4294967296 ≤ b
  ·rw [decide_eq_true c]; simp; omega
  ·rw [decide_eq_false c]; simp; omega
 ·show false = decide (2 * 9223372036854775808 ≤ b)
  rw [decide_eq_false (by omega)]
theorem take_ok {f : Int} {F : Fmt} (h : Fm f F) (b : Nat) (hb : b < 2 * F.sg) : Ev (fun k => binary_take.f k f (b : Int)) (tk F (decide (F.sg ≤ b)) (b % F.sg) 0) := by
 have hz := h.sz
 refine Ev.congr (fun k => take_j h k b) ?_
 rw [high_bits h b (by omega), decide_eq_false (by omega)]
 refine Ev.step (f := fun _ => some (tk F (decide (F.sg ≤ b)) (b % F.sg) 0)) (fun k => ?_) (Ev.now _)
 simp only [binary_take.j0, sign_f h, Option.bind_some]
 rw [if_neg (by decide), and_sg (fm_isF h) hb, andNot_sg (fm_isF h) hb]
theorem finite_ok {f : Int} {F : Fmt} (h : Fm f F) (b : Nat) (hb : b < 2 * F.sg) (hi : b % F.sg < F.inf) : Ev (fun k => binary_finite.f k f (b : Int)) (tk F (decide (F.sg ≤ b)) (b % F.sg) 0) := by
 unfold binary_finite.f
 refine Ev.bind (take_ok h b hb) ?_
 simp only [tk, binf_f h, Option.bind_some, if_true]
 refine Ev.step (f := fun _ => some (tk F (decide (F.sg ≤ b)) (b % F.sg) 0)) (fun k => ?_) (Ev.now _)
 simp only [binary_finite.j0]
 exact (if_neg (show ¬ decide (((b % F.sg : Nat) : Int) ≥ ((F.inf : Nat) : Int)) = true from fun c => by have := of_decide_eq_true c; omega))
theorem parts_f {f : Int} {F : Fmt} (h : Fm f F) (s : Nat) (hs : s < F.sg) : binary_shape_parts.f (F.wd : Nat) (F.man : Nat) F.low (F.qt : Nat) (s : Int) = some (((mgF F s : Nat) : Int), xpF F s) := by
 have hz := h.sz
 have hh := (fm_hd h)
 have hl : -1074 ≤ F.low ∧ F.low ≤ -149 := by rcases h with ⟨_, rfl⟩ | ⟨_, rfl⟩ <;> exact ⟨by decide, by decide⟩
 have hq : s / hdF F ≤ 2048 := by
  have : s / hdF F < 2048 := by
   rw [Nat.div_lt_iff_lt_mul hh.1]
   rcases h with ⟨_, rfl⟩ | ⟨_, rfl⟩
   ·have : s < 2147483648 := hs
    show s < 2048 * 8388608; omega
   ·have : s < 9223372036854775808 := hs
    show s < 2048 * 4503599627370496; omega
  omega
 have hr : s % hdF F < hdF F := Nat.mod_lt _ hh.1
 unfold binary_shape_parts.f mgF xpF
 simp only [hidden_f h, Option.bind_some, ← Int.ofNat_tdiv, ← Int.ofNat_tmod]
 generalize s / hdF F = q at hq ⊢
 generalize s % hdF F = r at hr ⊢
 generalize hdF F = d at hh hr ⊢
 rw [if_neg (by omega), if_neg (by omega), wu64 (by omega) (by omega)]
 by_cases c : q = 0
 ·rw [if_pos (by omega), if_pos c, if_pos c]
 ·rw [if_neg (by omega), if_neg c, if_neg c, wu64 (by omega) (by omega), w64 (x := ((q : Nat) : Int)) (by omega) (by omega), w64 (x := F.low + _) (by omega) (by omega), w64 (by omega) (by omega)]
  rfl
theorem pat_mod (F : Fmt) (neg : Bool) {s : Nat} (hs : s < F.sg) : pat F neg s % F.sg = s := by
 unfold pat
 cases neg
 ·exact Nat.mod_eq_of_lt hs
 ·rw [if_pos rfl, Nat.add_mod_left, Nat.mod_eq_of_lt hs]
theorem pat_ge (F : Fmt) (neg : Bool) {s : Nat} (hs : s < F.sg) : decide (F.sg ≤ pat F neg s) = neg := by
 unfold pat
 cases neg
 ·rw [if_neg (by decide)]; exact decide_eq_false (by omega)
 ·rw [if_pos rfl]; exact decide_eq_true (by omega)
theorem pat_lt (F : Fmt) (neg : Bool) {s : Nat} (hs : s < F.sg) : pat F neg s < 2 * F.sg := by
 unfold pat
 cases neg
 ·rw [if_neg (by decide)]; omega
 ·rw [if_pos rfl]; omega
theorem finite_pat {f : Int} {F : Fmt} (h : Fm f F) (neg : Bool) {s : Nat} (hs : s < F.inf) : Ev (fun k => binary_finite.f k f ((pat F neg s : Nat) : Int)) (tk F neg s 0) := by
 have hs2 : s < F.sg := by have := h.sz; omega
 have := finite_ok h _ (pat_lt F neg hs2) (by rw [pat_mod F neg hs2]; exact hs)
 rwa [pat_ge F neg hs2, pat_mod F neg hs2] at this
theorem mg_lt {f : Int} {F : Fmt} (h : Fm f F) (s : Nat) : mgF F s < 9007199254740992 := by
 obtain ⟨h0, -, h1, -⟩ := fm_hd h
 have hm := Nat.mod_lt s h0
 unfold mgF
 split <;> omega
theorem dF_le {f : Int} {F : Fmt} (h : Fm f F) {s : Nat} (hs : s < F.sg) : dF F s ≤ 2048 := by
 unfold dF
 have : s / hdF F < 2048 := by
  rw [Nat.div_lt_iff_lt_mul (fm_hd h).1]
  rcases h with ⟨_, rfl⟩ | ⟨_, rfl⟩
  ·have : s < 2147483648 := hs
   show s < 2048 * 8388608; omega
  ·have : s < 9223372036854775808 := hs
   show s < 2048 * 4503599627370496; omega
 omega
end Go.Proofs.YtapikmfckpgjoaaGreatDoor.Rp5
end
