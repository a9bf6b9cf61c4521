/- Functions of the program as plain Lean functions (definitions as the print's), and that the machine's calls do what they do (contracts 'X.c', by Px). Condition: math/bits' table is laid. What the printed functions on dyadics answer: Form (the program's and the reference's), Sign, top, size, Cmp. Plain Lean over the printed functions. Conditions: lists of words. What the printed functions of rounding answer: Bit, Word, NearShr, Shl, the size to which a number rounds, Nearest, Decide. Plain Lean over the printed functions. Conditions: numbers in form. What the printed rounding answers: the pattern of the nearest size. Plain Lean over the printed functions. Conditions: numbers in form. The order of dyadics as the order of their values; Decide; calls on given numbers. Plain Lean over the printed functions. Conditions: numbers in form. What the printed functions of a format answer: take, finite, parts, classes, midpoints, cells, neighbours, ranks. Plain Lean over the printed functions. Conditions: words below 2^64. -/
import Derived.Test.YtapikmfckpgjoaaGreatDoorKDdMulsGA
import Derived.Test.YtapikmfckpgjoaaGreatDoorKDdMulsGP
import Derived.Test.YtapikmfckpgjoaaGreatDoorKDdMulsGivenD
import Derived.Test.YtapikmfckpgjoaaGreatDoorKDdMulsRnd
import Derived.Test.YtapikmfckpgjoaaGreatDoorKDdMulsNum
section
set_option linter.unusedVariables false
namespace Go.Proofs.YtapikmfckpgjoaaGreatDoor.PLib
open Go Go.RowKit Go.Proofs.YtapikmfckpgjoaaGreatDoorW.PrintWords Go.Proofs.YtapikmfckpgjoaaGreatDoorW.PrintMore Go.Proofs.YtapikmfckpgjoaaGreatDoor.Given Go.Proofs.YtapikmfckpgjoaaGreatDoor.Px
def dyadic_nought.f (a0_0 : Bool) (l0_1 : List Int) (a0_2 : Int) : Option (Bool) := some ((l0_1.length : Int) == 0)
def nat_Form.f (l0 : List Int) : Option (Bool) := if (l0.length : Int) ≤ 8192 then (if (l0.length : Int) = 0 then (some true) else (if 0 ≤ (wrap64 ((l0.length : Int) - 1)) then (if (wrap64 ((l0.length : Int) - 1)) < (l0.length : Int) then (some ((rd l0 (wrap64 ((l0.length : Int) - 1))) != 0)) else (none)) else (none))) else (some false)
def num_Form.f (a0_0 : Bool) (l0_1 : List Int) : Option (Bool) := (nat_Form.f l0_1).bind fun t284 => (if t284 = true then (if a0_0 = true then (some (!((l0_1.length : Int) == 0))) else (some (!false))) else (some false))
def dyadic_Form.j0 : Nat → Bool → Bool → List Int → Int → Option (Bool)
 | 0, _, _, _, _ => none
 | k + 1, x16, x286000, x286001, x286002 => if x16 = true then (some false) else ((dyadic_nought.f x286000 x286001 x286002).bind fun t287 => (if t287 = true then (some (x286002 == 0)) else (if 0 < (x286001.length : Int) then (some ((Go.bits .and .u64 (rd x286001 0) 1) == 1)) else (none))))
def dyadic_Form.f (k : Nat) (a0_0 : Bool) (l0_1 : List Int) (a0_2 : Int) : Option (Bool) := (num_Form.f a0_0 l0_1).bind fun t286 => (if t286 = true then (if a0_2 < (-1048576) then (dyadic_Form.j0 k true a0_0 l0_1 a0_2) else (dyadic_Form.j0 k (decide (a0_2 > 1048576)) a0_0 l0_1 a0_2)) else (dyadic_Form.j0 k true a0_0 l0_1 a0_2))
def gnomonref07_Of.f (a0 : Int) : Option (Int × Int × Int × Int × Int × Int × Bool) := if a0 = 32 then (some (2147483648, 24, (-149), 104, 2139095040, 2143289345, true)) else (if a0 = 64 then (some (9223372036854775808, 53, (-1074), 971, 9218868437227405312, 9221120237041090561, true)) else (some (0, 0, 0, 0, 0, 0, false)))
theorem gnomonref07_Of.c {a0 : Int} {r : Int × Int × Int × Int × Int × Int × Bool} (h : gnomonref07_Of.f a0 = some r) : Con Tryz.prog Gw 97 [.s (.i .i64 a0)] (· = .tu [.ag [.i .u64 r.1, .i .i64 r.2.1, .i .i64 r.2.2.1, .i .i64 r.2.2.2.1, .i .u64 r.2.2.2.2.1, .i .u64 r.2.2.2.2.2.1], .s (.b r.2.2.2.2.2.2)]) := by
 unfold gnomonref07_Of.f at h
 rcases ite_e h with ⟨c1, h⟩ | ⟨c1, h⟩
 ·have h := si h; subst h
  exact pth Tryz.func97 [.br true] (fun e => ai (q1 c1) e) (by kernel_rfl)
 ·rcases ite_e h with ⟨c2, h⟩ | ⟨c2, h⟩
  ·have h := si h; subst h
   exact pth Tryz.func97 [.br false, .br true] (fun e => ai (q0 c1) (ai (q1 c2) e)) (by kernel_rfl)
  ·have h := si h; subst h
   exact pth Tryz.func97 [.br false, .br false] (fun e => ai (q0 c1) (ai (q0 c2) e)) (by kernel_rfl)
def gnomonref07_Cut.f (a0_0 : Int) (a0_1 : Int) (a0_2 : Int) (a0_3 : Int) (a0_4 : Int) (a0_5 : Int) (a1 : Int) : Option (Bool × Int) := if a0_0 = 0 then (none) else (some (decide (a1 ≥ a0_0), Int.tmod a1 a0_0))
theorem gnomonref07_Cut.c {a0_0 : Int} {a0_1 : Int} {a0_2 : Int} {a0_3 : Int} {a0_4 : Int} {a0_5 : Int} {a1 : Int} {r : Bool × Int} (h : gnomonref07_Cut.f a0_0 a0_1 a0_2 a0_3 a0_4 a0_5 a1 = some r) : Con Tryz.prog Gw 124 [.ag [.i .u64 a0_0, .i .i64 a0_1, .i .i64 a0_2, .i .i64 a0_3, .i .u64 a0_4, .i .u64 a0_5], .s (.i .u64 a1)] (· = .tu [.s (.b r.1), .s (.i .u64 r.2)]) := by
 unfold gnomonref07_Cut.f at h
 rcases ite_e h with ⟨c1, h⟩ | ⟨c1, h⟩
 ·cases h
 ·have h := si h; subst h
  exact pth Tryz.func124 [] (fun e => ai c1 e) (by kernel_rfl)
end Go.Proofs.YtapikmfckpgjoaaGreatDoor.PLib
end
section
namespace Go.Proofs.YtapikmfckpgjoaaGreatDoor.Rp1
open Go.RowKit Go.Proofs.YtapikmfckpgjoaaGreatDoorW.PrintWords Go.Proofs.YtapikmfckpgjoaaGreatDoorW.PrintMore Go.Proofs.YtapikmfckpgjoaaGreatDoor.Num Go.Proofs.YtapikmfckpgjoaaGreatDoor.PLib Go.Proofs.YtapikmfckpgjoaaGreatDoor.Ref Go.Proofs.YtapikmfckpgjoaaGreatDoor.GTh Go.Proofs.YtapikmfckpgjoaaGreatDoor.Given
theorem Ev.succ {α : Type} {g : Nat → Option α} {r : α} (h : Ev (fun k => g (k + 1)) r) : Ev g r := Ev.step (f := fun k => g (k + 1)) (fun _ => rfl) h
def nfm (l : List Int) : Bool := decide (l.length ≤ 8192) && (decide (l.length = 0) || (rd l (((l.length - 1 : Nat) : Int)) != 0))
theorem natForm_f (l : List Int) : nat_Form.f l = some (nfm l) := by
 unfold nat_Form.f nfm
 by_cases c : l.length ≤ 8192
 ·rw [if_pos (by omega), decide_eq_true c, Bool.true_and]
  by_cases c0 : l.length = 0
  ·rw [if_pos (by omega), decide_eq_true c0, Bool.true_or]
  ·have e : wrap64 ((l.length : Int) - 1) = ((l.length - 1 : Nat) : Int) := by rw [w64 (by omega) (by omega)]; omega
   rw [if_neg (by omega), e, if_pos (by omega), if_pos (by omega), decide_eq_false c0, Bool.false_or]
 ·rw [if_neg (by omega), decide_eq_false c, Bool.false_and]
def dyB (neg : Bool) (l : List Int) (x : Int) : Bool := if nfm l = true ∧ -1048576 ≤ x ∧ x ≤ 1048576 then (if l.length = 0 then (!neg && (x == 0)) else (Go.bits .and .u64 (rd l 0) 1 == 1)) else false
theorem numForm_f (neg : Bool) (l : List Int) : num_Form.f neg l = some (nfm l && !(neg && decide (l.length = 0))) := by
 unfold num_Form.f
 rw [natForm_f]
 simp only [Option.bind_some]
 cases hn : nfm l
 ·rfl
 ·simp only [if_true]
  cases neg
  ·rfl
  ·rw [if_pos rfl, Bool.true_and, Bool.true_and]
   by_cases c : l.length = 0
   ·rw [decide_eq_true c, c]; rfl
   ·rw [decide_eq_false c, show ((l.length : Int) == 0) = false by simpa using c]
theorem form_ev (neg : Bool) (l : List Int) (x : Int) : Ev (fun k => dyadic_Form.f k neg l x) (dyB neg l x) := by
 have hj : ∀ b : Bool, (b = true → dyB neg l x = false) → (b = false → dyB neg l x = (if l.length = 0 then (!neg && (x == 0)) else (Go.bits .and .u64 (rd l 0) 1 == 1)) ∧ (l.length = 0 → neg = false)) → Ev (fun k => dyadic_Form.j0 k b neg l x) (dyB neg l x) := by
  intro b hb1 hb2
  refine Ev.step (f := fun _ => some (dyB neg l x)) (fun k => ?_) (Ev.now _)
  rw [dyadic_Form.j0]
  cases b
  ·obtain ⟨e, e0⟩ := hb2 rfl
   rw [if_neg (by decide), e]
   by_cases c : l.length = 0
   ·have : dyadic_nought.f neg l x = some true := by unfold dyadic_nought.f; rw [c]; rfl
    rw [this, if_pos c, e0 c]
    simp
   ·have : dyadic_nought.f neg l x = some false := by unfold dyadic_nought.f; rw [show ((l.length : Int) == 0) = false by simpa using c]
    rw [this, if_neg c]
    simp only [Option.bind_some]
    rw [if_neg (by decide), if_pos (by omega)]
  ·rw [if_pos rfl, hb1 rfl]
 unfold dyadic_Form.f
 rw [numForm_f]
 simp only [Option.bind_some]
 cases hn : nfm l
 ·rw [Bool.false_and]
  refine Ev.congr (fun k => if_neg (by decide)) (hj true (fun _ => ?_) (fun h => by cases h))
  unfold dyB
  rw [hn, if_neg (by simp)]
 ·rw [Bool.true_and]
  cases hz : (neg && decide (l.length = 0))
  ·refine Ev.congr (fun k => if_pos (by decide)) ?_
   have hz' : l.length = 0 → neg = false := fun c => by
    rw [decide_eq_true c, Bool.and_true] at hz; exact hz
   by_cases c1 : x < -1048576
   ·refine Ev.congr (fun k => if_pos c1) (hj true (fun _ => ?_) (fun h => by cases h))
    unfold dyB
    rw [if_neg (by omega)]
   ·refine Ev.congr (fun k => if_neg c1) (hj _ (fun h => ?_) (fun h => ?_))
    ·have := of_decide_eq_true h
     unfold dyB
     rw [if_neg (by omega)]
    ·have := of_decide_eq_false h
     refine ⟨?_, hz'⟩
     unfold dyB
     rw [if_pos ⟨hn, by omega, by omega⟩]
  ·refine Ev.congr (fun k => if_neg (by decide)) (hj true (fun _ => ?_) (fun h => by cases h))
   rw [Bool.and_eq_true] at hz
   have := of_decide_eq_true hz.2
   unfold dyB
   rw [hz.1]
   split
   ·first | rfl | (rw [if_pos this]; rfl)
   ·rfl
def sgn (neg : Bool) (m : Nat) : Int := if m = 0 then 0 else if neg then -1 else 1
def szc (m : Nat) (x : Int) (m' : Nat) (x' : Int) : Int := cmI (m * 2^(x - min x x').toNat) (m' * 2^(x' - min x x').toNat)
theorem cmI_lt {x y : Nat} (h : x < y) : cmI x y = -1 := if_pos h
theorem cmI_gt {x y : Nat} (h : y < x) : cmI x y = 1 := by unfold cmI; rw [if_neg (by omega), if_pos h]
theorem szc_top {m m' : Nat} {x x' : Int} (h0 : m ≠ 0) (h0' : m' ≠ 0) (h : x + (bl m : Nat) < x' + (bl m' : Nat)) : m * 2^(x - min x x').toNat < m' * 2^(x' - min x x').toNat := by
 have h1 : bl (m * 2^(x - min x x').toNat) = bl m + (x - min x x').toNat := bl_mul m _ h0
 have h2 : bl (m' * 2^(x' - min x x').toNat) = bl m' + (x' - min x x').toNat := bl_mul m' _ h0'
 by_cases c : m * 2^(x - min x x').toNat < m' * 2^(x' - min x x').toNat
 ·exact c
 ·have h3 := bl_mono (show m' * 2^(x' - min x x').toNat ≤ m * 2^(x - min x x').toNat by omega)
  omega
end Go.Proofs.YtapikmfckpgjoaaGreatDoor.Rp1
end
section
namespace Go.Proofs.YtapikmfckpgjoaaGreatDoor.Rp2
open Go.RowKit Go.Proofs.YtapikmfckpgjoaaGreatDoorW.PrintWords Go.Proofs.YtapikmfckpgjoaaGreatDoorW.PrintMore Go.Proofs.YtapikmfckpgjoaaGreatDoor.Num Go.Proofs.YtapikmfckpgjoaaGreatDoor.PLib Go.Proofs.YtapikmfckpgjoaaGreatDoor.Ref Go.Proofs.YtapikmfckpgjoaaGreatDoor.GTh Go.Proofs.YtapikmfckpgjoaaGreatDoor.Given Go.Proofs.YtapikmfckpgjoaaGreatDoor.Rp1 Go.Proofs.YtapikmfckpgjoaaGreatDoor.BinLaw Go.Proofs.YtapikmfckpgjoaaGreatDoor.Fm8 Go.Proofs.YtapikmfckpgjoaaGreatDoor.Rnd
theorem add_f {m n : Nat} (h : nl m ≤ 8192) (h' : nl n ≤ 8192) (h2 : nl (m + n) ≤ 8192) : nat_Add.f (lb m) (lb n) = some (lb (m + n), 0) := by
 unfold nat_Add.f
 rw [vL_lb, vL_lb, if_pos ⟨fmL_lb h, fmL_lb h', h2⟩]
end Go.Proofs.YtapikmfckpgjoaaGreatDoor.Rp2
end
section
namespace Go.Proofs.YtapikmfckpgjoaaGreatDoor.Rp3
open Go.RowKit Go.Proofs.YtapikmfckpgjoaaGreatDoorW.PrintWords Go.Proofs.YtapikmfckpgjoaaGreatDoorW.PrintMore Go.Proofs.YtapikmfckpgjoaaGreatDoor.Num Go.Proofs.YtapikmfckpgjoaaGreatDoor.PLib Go.Proofs.YtapikmfckpgjoaaGreatDoor.Ref Go.Proofs.YtapikmfckpgjoaaGreatDoor.GTh Go.Proofs.YtapikmfckpgjoaaGreatDoor.Given Go.Proofs.YtapikmfckpgjoaaGreatDoor.Rp1 Go.Proofs.YtapikmfckpgjoaaGreatDoor.Rp2 Go.Proofs.YtapikmfckpgjoaaGreatDoor.BinLaw Go.Proofs.YtapikmfckpgjoaaGreatDoor.Fm8 Go.Proofs.YtapikmfckpgjoaaGreatDoor.Rnd
def pat (F : Fmt) (neg : Bool) (s : Nat) : Nat := if neg then F.sg + s else s
end Go.Proofs.YtapikmfckpgjoaaGreatDoor.Rp3
end
section
namespace Go.Proofs.YtapikmfckpgjoaaGreatDoor.Rp4
open Go.RowKit Go.Proofs.YtapikmfckpgjoaaGreatDoorW.PrintWords Go.Proofs.YtapikmfckpgjoaaGreatDoorW.PrintMore Go.Proofs.YtapikmfckpgjoaaGreatDoor.Num Go.Proofs.YtapikmfckpgjoaaGreatDoor.PLib Go.Proofs.YtapikmfckpgjoaaGreatDoor.Ref Go.Proofs.YtapikmfckpgjoaaGreatDoor.GTh Go.Proofs.YtapikmfckpgjoaaGreatDoor.Given Go.Proofs.YtapikmfckpgjoaaGreatDoor.Rp1 Go.Proofs.YtapikmfckpgjoaaGreatDoor.Rp2 Go.Proofs.YtapikmfckpgjoaaGreatDoor.Rp3 Go.Proofs.YtapikmfckpgjoaaGreatDoor.BinLaw Go.Proofs.YtapikmfckpgjoaaGreatDoor.Fm8 Go.Proofs.YtapikmfckpgjoaaGreatDoor.Rnd
def vs (neg : Bool) (m : Nat) (x E : Int) : Int := if neg then -((m * 2^(x - E).toNat : Nat) : Int) else ((m * 2^(x - E).toNat : Nat) : Int)
theorem szc_vs {m m' : Nat} {x x' E : Int} (h : E ≤ x) (h' : E ≤ x') : szc m x m' x' = cmI (m * 2^(x - E).toNat) (m' * 2^(x' - E).toNat) := by
 unfold szc
 obtain ⟨d, hd⟩ : ∃ d : Nat, d = (min x x' - E).toNat := ⟨_, rfl⟩
 have e1 : (x - E).toNat = (x - min x x').toNat + d := by omega
 have e2 : (x' - E).toNat = (x' - min x x').toNat + d := by omega
 rw [e1, e2, Nat.pow_add, Nat.pow_add, ← Nat.mul_assoc, ← Nat.mul_assoc]
 generalize m * 2^(x - min x x').toNat = a
 generalize m' * 2^(x' - min x x').toNat = b
 have p := Nat.two_pow_pos d
 have i1 : a * 2^d < b * 2^d ↔ a < b := ⟨fun h => Nat.lt_of_mul_lt_mul_right h, fun h => Nat.mul_lt_mul_of_pos_right h p⟩
 have i2 : b * 2^d < a * 2^d ↔ b < a := ⟨fun h => Nat.lt_of_mul_lt_mul_right h, fun h => Nat.mul_lt_mul_of_pos_right h p⟩
 unfold cmI
 simp only [i1, i2]
def pv (F : Fmt) (g : Nat) (V : Int) : Nat := if V = 0 then 0 else pat F (decide (V < 0)) (rsz F g V.natAbs)
end Go.Proofs.YtapikmfckpgjoaaGreatDoor.Rp4
end
section
namespace Go.Proofs.YtapikmfckpgjoaaGreatDoor.Rp5
open Go.RowKit Go.Proofs.YtapikmfckpgjoaaGreatDoorW.PrintWords Go.Proofs.YtapikmfckpgjoaaGreatDoorW.PrintMore Go.Proofs.YtapikmfckpgjoaaGreatDoor.Num Go.Proofs.YtapikmfckpgjoaaGreatDoor.PLib Go.Proofs.YtapikmfckpgjoaaGreatDoor.Ref Go.Proofs.YtapikmfckpgjoaaGreatDoor.GTh Go.Proofs.YtapikmfckpgjoaaGreatDoor.Given Go.Proofs.YtapikmfckpgjoaaGreatDoor.Rp1 Go.Proofs.YtapikmfckpgjoaaGreatDoor.Rp2 Go.Proofs.YtapikmfckpgjoaaGreatDoor.Rp3 Go.Proofs.YtapikmfckpgjoaaGreatDoor.Rp4 Go.Proofs.YtapikmfckpgjoaaGreatDoor.BinLaw Go.Proofs.YtapikmfckpgjoaaGreatDoor.Fm8 Go.Proofs.YtapikmfckpgjoaaGreatDoor.Rnd
theorem pat_mod (F : Fmt) (neg : Bool) {s : Nat} (hs : s < F.sg) : pat F neg s % F.sg = s := by
 unfold pat
 cases neg
 ·exact Nat.mod_eq_of_lt hs
 ·rw [if_pos rfl, Nat.add_mod_left, Nat.mod_eq_of_lt hs]
theorem pat_ge (F : Fmt) (neg : Bool) {s : Nat} (hs : s < F.sg) : decide (F.sg ≤ pat F neg s) = neg := by
 unfold pat
 cases neg
 ·rw [if_neg (by decide)]; exact decide_eq_false (by omega)
 ·rw [if_pos rfl]; exact decide_eq_true (by omega)
theorem pat_lt (F : Fmt) (neg : Bool) {s : Nat} (hs : s < F.sg) : pat F neg s < 2 * F.sg := by
 unfold pat
 cases neg
 ·rw [if_neg (by decide)]; omega
 ·rw [if_pos rfl]; omega
theorem mg_lt {f : Int} {F : Fmt} (h : Fm f F) (s : Nat) : mgF F s < 9007199254740992 := by
 obtain ⟨h0, -, h1, -⟩ := fm_hd h
 have hm := Nat.mod_lt s h0
 unfold mgF
 split <;> omega
theorem dF_le {f : Int} {F : Fmt} (h : Fm f F) {s : Nat} (hs : s < F.sg) : dF F s ≤ 2048 := by
 unfold dF
 have : s / hdF F < 2048 := by
  rw [Nat.div_lt_iff_lt_mul (fm_hd h).1]
  rcases h with ⟨_, rfl⟩ | ⟨_, rfl⟩
  ·have : s < 2147483648 := hs
   show s < 2048 * 8388608; omega
  ·have : s < 9223372036854775808 := hs
   show s < 2048 * 4503599627370496; omega
 omega
end Go.Proofs.YtapikmfckpgjoaaGreatDoor.Rp5
end
