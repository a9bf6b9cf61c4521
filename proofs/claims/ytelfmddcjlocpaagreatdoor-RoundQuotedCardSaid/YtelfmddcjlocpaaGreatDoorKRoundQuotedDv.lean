/- math/bits.Div64 divides: the plain law over its function. Plain Lean. Conditions: words below 2^64, the upper one below the divisor. -/
import Derived.Test.YtelfmddcjlocpaaGreatDoorKRoundQuotedBl
import Derived.Test.YtelfmddcjlocpaaGreatDoorKRoundQuotedGivenD
import Derived.Test.YtelfmddcjlocpaaGreatDoorKRoundQuotedPxTz
import Derived.Test.YtelfmddcjlocpaaGreatDoorKRoundQuotedPxM0
set_option linter.unusedVariables false
namespace Go.Proofs.YtelfmddcjlocpaaGreatDoor.Dv
open Go.RowKit Go.Proofs.YtelfmddcjlocpaaGreatDoorW.PrintWords Go.Proofs.YtelfmddcjlocpaaGreatDoorW.PrintMore Go.Proofs.YtelfmddcjlocpaaGreatDoor.Num Go.Proofs.YtelfmddcjlocpaaGreatDoor.PLib Go.Proofs.YtelfmddcjlocpaaGreatDoor.Ref Go.Proofs.YtelfmddcjlocpaaGreatDoor.GTh Go.Proofs.YtelfmddcjlocpaaGreatDoor.Given
theorem too_great {v1 v0 u d q r : Nat} (hv0 : v0 < 4294967296) (hu : u < v1 * 4294967296 + v0) (hd : d < 4294967296) (hr : q * v1 + r = u)
  (t : 4294967296 ≤ q ∨ 4294967296 * r + d < q * v0) : (u * 4294967296 + d) / (v1 * 4294967296 + v0) < q := by
 have hp : 0 < v1 * 4294967296 + v0 := by omega
 rw [Nat.div_lt_iff_lt_mul hp]
 rcases t with t | t
 ·have := Nat.mul_le_mul_right (v1 * 4294967296 + v0) t
  omega
 ·rw [Nat.mul_add, ← Nat.mul_assoc]
  have : q * v1 * 4294967296 + r * 4294967296 = u * 4294967296 := by rw [← Nat.add_mul, hr]
  omega
theorem not_great {v1 v0 u d q r : Nat} (hr : q * v1 + r = u) (t : q * v0 ≤ 4294967296 * r + d) : q * (v1 * 4294967296 + v0) ≤ u * 4294967296 + d := by
 rw [Nat.mul_add, ← Nat.mul_assoc]
 have : q * v1 * 4294967296 + r * 4294967296 = u * 4294967296 := by rw [← Nat.add_mul, hr]
 omega
theorem is_q {U v q : Nat} (hv : 0 < v) (h1 : U / v ≤ q) (h2 : q * v ≤ U) : q = U / v :=
 Nat.le_antisymm ((Nat.le_div_iff_mul_le hv).2 h2) h1
theorem first {v1 v0 u d : Nat} (hv1 : 2147483648 ≤ v1) (hv0 : v0 < 4294967296) (hu : u < v1 * 4294967296 + v0) (hd : d < 4294967296) :
  (u * 4294967296 + d) / (v1 * 4294967296 + v0) ≤ u / v1 ∧ u / v1 ≤ 4294967297 ∧ u / v1 * v1 + u % v1 = u := by
 refine ⟨?_, ?_, by rw [Nat.mul_comm]; exact Nat.div_add_mod u v1⟩
 ·have hp : 0 < v1 * 4294967296 + v0 := by omega
  refine Nat.le_of_lt_succ ((Nat.div_lt_iff_lt_mul hp).2 ?_)
  have h := Nat.lt_div_mul_add (a := u) (b := v1) (by omega)
  have e : (u / v1).succ * (v1 * 4294967296 + v0) = (u / v1 * v1 + v1) * 4294967296 + (u / v1).succ * v0 := by
   rw [Nat.mul_add, ← Nat.mul_assoc, Nat.succ_mul]
  rw [e]
  have := Nat.mul_le_mul_right 4294967296 (show u + 1 ≤ u / v1 * v1 + v1 by omega)
  omega
 ·refine Nat.le_of_lt_succ ((Nat.div_lt_iff_lt_mul (by omega)).2 ?_)
  omega
theorem wu (x : Nat) : IntKind.u64.wrap (x : Int) = ((x % 18446744073709551616 : Nat) : Int) := by rw [IntKind.wrap_u64]; omega
theorem rem_w {u d v Q : Nat} (hv : v < 18446744073709551616) (hv0 : 0 < v) (hQ : Q = (u * 4294967296 + d) / v) :
  IntKind.u64.wrap (IntKind.u64.wrap (IntKind.u64.wrap ((u : Int) * 4294967296) + (d : Int)) - IntKind.u64.wrap ((Q : Int) * (v : Int))) = (((u * 4294967296 + d) % v : Nat) : Int) := by
 have h := Nat.div_add_mod (u * 4294967296 + d) v
 have hm := Nat.mod_lt (u * 4294967296 + d) hv0
 rw [← hQ, Nat.mul_comm] at h
 rw [← Int.natCast_mul]
 generalize Q * v = B at *
 generalize (u * 4294967296 + d) % v = R at *
 rw [IntKind.wrap_u64, IntKind.wrap_u64, IntKind.wrap_u64, IntKind.wrap_u64]
 omega
theorem q_lt {u d v : Nat} (hu : u < v) (hd : d < 4294967296) : (u * 4294967296 + d) / v < 4294967296 := by
 rw [Nat.div_lt_iff_lt_mul (by omega)]
 omega
theorem fin_e {s u d v Q Q1 : Nat} (hv : v < 18446744073709551616) (hu : u < v) (hd : d < 4294967296) (hQ1 : Q1 < 4294967296) (hQ : Q = (u * 4294967296 + d) / v) :
  (if (0 : Int) ≤ (s : Int) then some (IntKind.u64.wrap (IntKind.u64.wrap ((Q1 : Int) * 4294967296) + (Q : Int)), shr .u64 (IntKind.u64.wrap (IntKind.u64.wrap (IntKind.u64.wrap ((u : Int) * 4294967296) + (d : Int)) - IntKind.u64.wrap ((Q : Int) * (v : Int)))) (s : Int)) else none)
   = some (((Q1 * 4294967296 + (u * 4294967296 + d) / v : Nat) : Int), shr .u64 (((u * 4294967296 + d) % v : Nat) : Int) (s : Int)) := by
 rw [if_pos (by omega), rem_w hv (by omega) hQ, ← hQ]
 have hq := q_lt hu hd
 rw [← hQ] at hq
 rw [wu64 (x := (Q1 : Int) * 4294967296) (by omega) (by omega), wu64 (by omega) (by omega)]
 congr 2
theorem l1_ev (v1 v0 s u d Q1 : Nat) (hv1 : 2147483648 ≤ v1) (hv1' : v1 < 4294967296) (hv0 : v0 < 4294967296) (hu : u < v1 * 4294967296 + v0) (hd : d < 4294967296) (hQ1 : Q1 < 4294967296) :
  ∀ (n q r : Nat), (u * 4294967296 + d) / (v1 * 4294967296 + v0) + n = q → q ≤ 4294967297 → r < 4294967296 → q * v1 + r = u →
  Ev (fun k => bits_Div64.l1 k ((v1 * 4294967296 + v0 : Nat) : Int) (s : Int) (v1 : Int) (v0 : Int) (d : Int) (Q1 : Int) (r : Int) (u : Int) (q : Int))
   (((Q1 * 4294967296 + (u * 4294967296 + d) / (v1 * 4294967296 + v0) : Nat) : Int), shr .u64 (((u * 4294967296 + d) % (v1 * 4294967296 + v0) : Nat) : Int) (s : Int)) := by
 intro n
 obtain ⟨v, hv⟩ : ∃ v, v = v1 * 4294967296 + v0 := ⟨_, rfl⟩
 have hvl : v < 18446744073709551616 := by omega
 induction n with
 | zero =>
  intro q r hq hq2 hr he
  have t : ¬ (4294967296 ≤ q ∨ 4294967296 * r + d < q * v0) := fun t => by
   have := too_great hv0 hu hd he t
   omega
  have h1 : q * v0 < 18446744073709551616 := by
   have := Nat.mul_le_mul (show q ≤ 4294967295 by omega) (show v0 ≤ 4294967295 by omega)
   omega
  refine Ev.step (f := fun _ => some _) (fun k => ?_) (Ev.now _)
  have tq : q < 4294967296 := by omega
  have tt : q * v0 ≤ 4294967296 * r + d := by omega
  rw [← hv] at hu hq ⊢
  have hq' : q = (u * 4294967296 + d) / v := by omega
  clear hq t
  rw [bits_Div64.l1, if_neg (by omega), ← Int.natCast_mul, wu64 (x := ((q * v0 : Nat) : Int)) (by omega) (by omega), wu64 (x := 4294967296 * (r : Int)) (by omega) (by omega), wu64 (x := 4294967296 * (r : Int) + (d : Int)) (by omega) (by omega), if_neg (by omega)]
  exact fin_e hvl hu hd hQ1 hq'
 | succ n ih =>
  intro q r hq hq2 hr he
  have hq1 : 1 ≤ q := by rw [← hq]; exact Nat.le_trans (Nat.succ_le_succ (Nat.zero_le n)) (Nat.le_add_left _ _)
  obtain ⟨q', rfl⟩ : ∃ q', q = q' + 1 := ⟨q - 1, (Nat.sub_add_cancel hq1).symm⟩
  have he' : q' * v1 + (r + v1) = u := by rw [← he, Nat.succ_mul]; omega
  by_cases t : 4294967296 ≤ q' + 1 ∨ 4294967296 * r + d < (q' + 1) * v0
  rotate_left
  ·have := is_q (by omega) (show (u * 4294967296 + d) / (v1 * 4294967296 + v0) ≤ q' + 1 by omega) (not_great he (by omega))
   omega
  have body : ∀ k, bits_Div64.l1 (k + 1) ((v1 * 4294967296 + v0 : Nat) : Int) (s : Int) (v1 : Int) (v0 : Int) (d : Int) (Q1 : Int) (r : Int) (u : Int) ((q' + 1 : Nat) : Int) =
    (if (((r + v1 : Nat) : Int)) ≥ 4294967296 then (if (0 : Int) ≤ (s : Int) then some (IntKind.u64.wrap (IntKind.u64.wrap ((Q1 : Int) * 4294967296) + (q' : Int)), shr .u64 (IntKind.u64.wrap (IntKind.u64.wrap (IntKind.u64.wrap ((u : Int) * 4294967296) + (d : Int)) - IntKind.u64.wrap ((q' : Int) * ((v1 * 4294967296 + v0 : Nat) : Int)))) (s : Int)) else none)
     else bits_Div64.l1 k ((v1 * 4294967296 + v0 : Nat) : Int) (s : Int) (v1 : Int) (v0 : Int) (d : Int) (Q1 : Int) ((r + v1 : Nat) : Int) (u : Int) (q' : Int)) := by
   intro k
   have w1 : IntKind.u64.wrap ((r : Int) + (v1 : Int)) = ((r + v1 : Nat) : Int) := by rw [wu64 (by omega) (by omega)]; omega
   have w2 : IntKind.u64.wrap (((q' + 1 : Nat) : Int) - 1) = ((q' : Nat) : Int) := by rw [wu64 (by omega) (by omega)]; omega
   rw [bits_Div64.l1, w1, w2]
   by_cases c : 4294967296 ≤ q' + 1
   ·rw [if_pos (by omega)]
   ·have h1 : (q' + 1) * v0 < 18446744073709551616 := by
     have := Nat.mul_le_mul (show q' + 1 ≤ 4294967295 by omega) (show v0 ≤ 4294967295 by omega)
     omega
    rw [if_neg (by omega), ← Int.natCast_mul, wu64 (x := (((q' + 1) * v0 : Nat) : Int)) (by omega) (by omega), wu64 (x := 4294967296 * (r : Int)) (by omega) (by omega), wu64 (x := 4294967296 * (r : Int) + (d : Int)) (by omega) (by omega), if_pos (by omega)]
  by_cases c : 4294967296 ≤ r + v1
  ·refine Ev.step (f := fun _ => some _) (fun k => ?_) (Ev.now _)
   rw [body, if_pos (by omega)]
   have m := Nat.mul_le_mul (show q' ≤ 4294967296 by omega) (show v0 ≤ r + v1 by omega)
   have e := is_q (by omega) (show (u * 4294967296 + d) / (v1 * 4294967296 + v0) ≤ q' by omega) (not_great he' (by omega))
   rw [← hv] at hu e ⊢
   exact fin_e hvl hu hd hQ1 e
  ·refine Ev.step (f := fun k => bits_Div64.l1 k ((v1 * 4294967296 + v0 : Nat) : Int) (s : Int) (v1 : Int) (v0 : Int) (d : Int) (Q1 : Int) ((r + v1 : Nat) : Int) (u : Int) (q' : Int)) (fun k => ?_) (ih q' (r + v1) (by omega) (by omega) (by omega) he')
   rw [body, if_neg (by omega)]
theorem tdiv_nat (x y : Nat) : Int.tdiv (x : Int) (y : Int) = ((x / y : Nat) : Int) := (Int.ofNat_tdiv x y).symm
theorem q0_w {R v1 : Nat} (hR : R < 18446744073709551616) : IntKind.u64.wrap (Int.tdiv (R : Int) (v1 : Int)) = ((R / v1 : Nat) : Int) := by
 rw [tdiv_nat]
 have := Nat.div_le_self R v1
 generalize R / v1 = a at *
 exact wu64 (by omega) (by omega)
theorem r0_w {R v1 : Nat} (hR : R < 18446744073709551616) : IntKind.u64.wrap ((R : Int) - IntKind.u64.wrap (((R / v1 : Nat) : Int) * (v1 : Int))) = ((R % v1 : Nat) : Int) := by
 have h := Nat.div_add_mod R v1
 rw [Nat.mul_comm] at h
 rw [← Int.natCast_mul]
 generalize R / v1 * v1 = a at *
 generalize R % v1 = b at *
 rw [wu64 (x := (a : Int)) (by omega) (by omega), wu64 (by omega) (by omega)]
 omega
theorem j0_ev (v1 v0 s u d e Q1 : Nat) (hv1 : 2147483648 ≤ v1) (hv1' : v1 < 4294967296) (hv0 : v0 < 4294967296) (hu : u < v1 * 4294967296 + v0) (hd : d < 4294967296) (he : e < 4294967296)
  (hQ : Q1 = (u * 4294967296 + d) / (v1 * 4294967296 + v0)) :
  Ev (fun k => bits_Div64.j0 k ((v1 * 4294967296 + v0 : Nat) : Int) (s : Int) (v1 : Int) (v0 : Int) (u : Int) (d : Int) (e : Int) (Q1 : Int))
   (((Q1 * 4294967296 + ((u * 4294967296 + d) % (v1 * 4294967296 + v0) * 4294967296 + e) / (v1 * 4294967296 + v0) : Nat) : Int),
    shr .u64 ((((u * 4294967296 + d) % (v1 * 4294967296 + v0) * 4294967296 + e) % (v1 * 4294967296 + v0) : Nat) : Int) (s : Int)) := by
 have hR := Nat.mod_lt (u * 4294967296 + d) (show 0 < v1 * 4294967296 + v0 by omega)
 have hQ1 : Q1 < 4294967296 := by rw [hQ]; exact q_lt hu hd
 obtain ⟨f1, f2, f3⟩ := first hv1 hv0 hR he
 have hr := Nat.mod_lt ((u * 4294967296 + d) % (v1 * 4294967296 + v0)) (show 0 < v1 by omega)
 refine Ev.step (fun k => ?_) (l1_ev v1 v0 s _ e Q1 hv1 hv1' hv0 hR he hQ1 _ _ _ (Nat.add_sub_of_le f1) f2 (by omega) f3)
 have hl : (u * 4294967296 + d) % (v1 * 4294967296 + v0) < 18446744073709551616 := by omega
 rw [bits_Div64.j0, if_neg (by omega), rem_w (by omega) (by omega) hQ, q0_w hl, r0_w hl]
theorem l0_ev (v1 v0 s u d e : Nat) (hv1 : 2147483648 ≤ v1) (hv1' : v1 < 4294967296) (hv0 : v0 < 4294967296) (hu : u < v1 * 4294967296 + v0) (hd : d < 4294967296) (res : Int × Int)
  (hres : Ev (fun k => bits_Div64.j0 k ((v1 * 4294967296 + v0 : Nat) : Int) (s : Int) (v1 : Int) (v0 : Int) (u : Int) (d : Int) (e : Int) (((u * 4294967296 + d) / (v1 * 4294967296 + v0) : Nat) : Int)) res) :
  ∀ (n q r : Nat), (u * 4294967296 + d) / (v1 * 4294967296 + v0) + n = q → q ≤ 4294967297 → r < 4294967296 → q * v1 + r = u →
  Ev (fun k => bits_Div64.l0 k ((v1 * 4294967296 + v0 : Nat) : Int) (s : Int) (v1 : Int) (v0 : Int) (u : Int) (d : Int) (e : Int) (q : Int) (r : Int)) res := by
 intro n
 induction n with
 | zero =>
  intro q r hq hq2 hr he
  have t : ¬ (4294967296 ≤ q ∨ 4294967296 * r + d < q * v0) := fun t => by
   have := too_great hv0 hu hd he t
   omega
  have h1 : q * v0 < 18446744073709551616 := by
   have := Nat.mul_le_mul (show q ≤ 4294967295 by omega) (show v0 ≤ 4294967295 by omega)
   omega
  have tq : q < 4294967296 := by omega
  have tt : q * v0 ≤ 4294967296 * r + d := by omega
  have hq' : q = (u * 4294967296 + d) / (v1 * 4294967296 + v0) := by omega
  rw [← hq'] at hres
  clear hq t hq'
  refine Ev.step (fun k => ?_) hres
  rw [bits_Div64.l0, if_neg (by omega), ← Int.natCast_mul, wu64 (x := ((q * v0 : Nat) : Int)) (by omega) (by omega), wu64 (x := 4294967296 * (r : Int)) (by omega) (by omega), wu64 (x := 4294967296 * (r : Int) + (d : Int)) (by omega) (by omega), if_neg (by omega)]
 | succ n ih =>
  intro q r hq hq2 hr he
  have hq1 : 1 ≤ q := by rw [← hq]; exact Nat.le_trans (Nat.succ_le_succ (Nat.zero_le n)) (Nat.le_add_left _ _)
  obtain ⟨q', rfl⟩ : ∃ q', q = q' + 1 := ⟨q - 1, (Nat.sub_add_cancel hq1).symm⟩
  have he' : q' * v1 + (r + v1) = u := by rw [← he, Nat.succ_mul]; omega
  by_cases t : 4294967296 ≤ q' + 1 ∨ 4294967296 * r + d < (q' + 1) * v0
  rotate_left
  ·have := is_q (by omega) (show (u * 4294967296 + d) / (v1 * 4294967296 + v0) ≤ q' + 1 by omega) (not_great he (by omega))
   omega
  have body : ∀ k, bits_Div64.l0 (k + 1) ((v1 * 4294967296 + v0 : Nat) : Int) (s : Int) (v1 : Int) (v0 : Int) (u : Int) (d : Int) (e : Int) ((q' + 1 : Nat) : Int) (r : Int) =
    (if (((r + v1 : Nat) : Int)) ≥ 4294967296 then bits_Div64.j0 k ((v1 * 4294967296 + v0 : Nat) : Int) (s : Int) (v1 : Int) (v0 : Int) (u : Int) (d : Int) (e : Int) (q' : Int)
     else bits_Div64.l0 k ((v1 * 4294967296 + v0 : Nat) : Int) (s : Int) (v1 : Int) (v0 : Int) (u : Int) (d : Int) (e : Int) (q' : Int) ((r + v1 : Nat) : Int)) := by
   intro k
   have w1 : IntKind.u64.wrap ((r : Int) + (v1 : Int)) = ((r + v1 : Nat) : Int) := by rw [wu64 (by omega) (by omega)]; omega
   have w2 : IntKind.u64.wrap (((q' + 1 : Nat) : Int) - 1) = ((q' : Nat) : Int) := by rw [wu64 (by omega) (by omega)]; omega
   rw [bits_Div64.l0, w1, w2]
   by_cases c : 4294967296 ≤ q' + 1
   ·rw [if_pos (by omega)]
   ·have h1 : (q' + 1) * v0 < 18446744073709551616 := by
     have := Nat.mul_le_mul (show q' + 1 ≤ 4294967295 by omega) (show v0 ≤ 4294967295 by omega)
     omega
    rw [if_neg (by omega), ← Int.natCast_mul, wu64 (x := (((q' + 1) * v0 : Nat) : Int)) (by omega) (by omega), wu64 (x := 4294967296 * (r : Int)) (by omega) (by omega), wu64 (x := 4294967296 * (r : Int) + (d : Int)) (by omega) (by omega), if_pos (by omega)]
  by_cases c : 4294967296 ≤ r + v1
  ·have m := Nat.mul_le_mul (show q' ≤ 4294967296 by omega) (show v0 ≤ r + v1 by omega)
   have e := is_q (by omega) (show (u * 4294967296 + d) / (v1 * 4294967296 + v0) ≤ q' by omega) (not_great he' (by omega))
   rw [← e] at hres
   refine Ev.step (fun k => ?_) hres
   rw [body, if_pos (by omega)]
  ·refine Ev.step (fun k => ?_) (ih q' (r + v1) (by omega) (by omega) (by omega) he')
   rw [body, if_neg (by omega)]
theorem shl_n (x n : Nat) (hn : n ≤ 64) : shl .u64 (x : Int) (n : Int) = ((x * 2^n % 18446744073709551616 : Nat) : Int) := by
 unfold shl
 rw [Int.toNat_natCast, Nat.min_eq_left (show n ≤ IntKind.u64.bits from hn), show ((x : Int) * 2^n) = ((x * 2^n : Nat) : Int) by rw [Int.natCast_mul, Int.natCast_pow]; rfl, wu]
theorem shr_n (x n : Nat) (hn : n ≤ 64) : shr .u64 (x : Int) (n : Int) = ((x / 2^n : Nat) : Int) := by
 unfold shr
 rw [Int.toNat_natCast, Nat.min_eq_left (show n ≤ IntKind.u64.bits from hn), show ((2 : Int)^n) = ((2^n : Nat) : Int) by rw [Int.natCast_pow]; rfl]
 exact (Int.natCast_ediv x (2^n)).symm
theorem two_steps {u d e v : Nat} (hv : 0 < v) :
  (u * 4294967296 + d) / v * 4294967296 + ((u * 4294967296 + d) % v * 4294967296 + e) / v = ((u * 4294967296 + d) * 4294967296 + e) / v ∧
  ((u * 4294967296 + d) % v * 4294967296 + e) % v = ((u * 4294967296 + d) * 4294967296 + e) % v := by
 have h := Nat.div_add_mod (u * 4294967296 + d) v
 obtain ⟨Q, hQ⟩ : ∃ Q, Q = (u * 4294967296 + d) / v := ⟨_, rfl⟩
 obtain ⟨R, hR⟩ : ∃ R, R = (u * 4294967296 + d) % v := ⟨_, rfl⟩
 rw [← hQ, ← hR] at h ⊢
 have e1 : (u * 4294967296 + d) * 4294967296 + e = (R * 4294967296 + e) + Q * 4294967296 * v := by
  rw [← h, Nat.add_mul, Nat.mul_assoc Q, Nat.mul_comm 4294967296 v, ← Nat.mul_assoc, Nat.mul_comm Q v]
  omega
 rw [e1, Nat.add_mul_div_right _ _ hv, Nat.add_mul_mod_self_right]
 exact ⟨Nat.add_comm _ _, Eq.refl _⟩
theorem lead_f {y : Nat} (hy : y < 18446744073709551616) : bits_LeadingZeros64.f (y : Int) = some (((64 - bl y : Nat) : Int)) := by
 have hb : bl y ≤ 64 := bl_le_of_lt hy
 have e : bits_Len64.f (y : Int) = some ((bl y : Nat) : Int) := by
  unfold bits_Len64.f
  rw [if_pos ⟨by omega, by omega⟩, Int.toNat_natCast]
 unfold bits_LeadingZeros64.f
 rw [e, Option.bind_some, w64 (by omega) (by omega)]
 exact congrArg some (by omega)
theorem div64_ev (hi lo y : Nat) (hy : y < 18446744073709551616) (h : hi < y) (hlo : lo < 18446744073709551616) :
  Ev (fun k => bits_Div64.f k (hi : Int) (lo : Int) (y : Int)) ((((hi * 18446744073709551616 + lo) / y : Nat) : Int), (((hi * 18446744073709551616 + lo) % y : Nat) : Int)) := by
 unfold bits_Div64.f
 refine Ev.congr (fun k => if_neg (by omega)) (Ev.congr (fun k => if_neg (by omega)) ?_)
 by_cases c : hi = 0
 ·subst c
  refine Ev.congr (fun k => if_pos rfl) ?_
  rw [Nat.zero_mul, Nat.zero_add, q0_w hlo, show Int.tmod (lo : Int) (y : Int) = ((lo % y : Nat) : Int) from (Int.ofNat_tmod lo y).symm]
  exact Ev.now _
 refine Ev.congr (fun k => if_neg (by omega)) ?_
 refine Ev.bind (show Ev (fun _ => bits_LeadingZeros64.f (y : Int)) (((64 - bl y : Nat) : Int)) from by rw [lead_f hy]; exact Ev.now _) ?_
 have y0 : y ≠ 0 := by omega
 have hb : bl y ≤ 64 := bl_le_of_lt hy
 have hb0 := bl_pos y0
 obtain ⟨s, hs⟩ : ∃ s, s = 64 - bl y := ⟨_, rfl⟩
 have y1 := bl_lt y
 have y2 := bl_ge y0
 rw [← hs, wu64 (x := (s : Int)) (by omega) (by omega), wu64 (x := 64 - (s : Int)) (by omega) (by omega), show (64 - (s : Int)) = ((bl y : Nat) : Int) by omega]
 have pS : 0 < 2^s := Nat.two_pow_pos s
 have pB : 0 < 2^(bl y) := Nat.two_pow_pos _
 have pp : 2^(bl y) * 2^s = 18446744073709551616 := by rw [← Nat.pow_add, show bl y + s = 64 by omega]
 have pq : 2^(bl y - 1) * 2^s = 9223372036854775808 := by rw [← Nat.pow_add, show bl y - 1 + s = 63 by omega]
 rw [shl_n y s (by omega), shl_n hi s (by omega), shl_n lo s (by omega), shr_n lo (bl y) hb]
 have lh := Nat.div_add_mod lo (2^(bl y))
 have ll := Nat.mod_lt lo pB
 have v1 : y * 2^s < 18446744073709551616 := by rw [← pp]; exact Nat.mul_lt_mul_of_pos_right y1 pS
 have v2 : 9223372036854775808 ≤ y * 2^s := by rw [← pq]; exact Nat.mul_le_mul_right _ y2
 have h1 : (hi + 1) * 2^s ≤ y * 2^s := Nat.mul_le_mul_right _ h
 rw [Nat.add_mul, Nat.one_mul] at h1
 have l1 : lo / 2^(bl y) < 2^s := by rw [Nat.div_lt_iff_lt_mul pB, Nat.mul_comm, pp]; exact hlo
 have l2 : lo * 2^s % 18446744073709551616 = lo % 2^(bl y) * 2^s := by
  have e : lo * 2^s = lo % 2^(bl y) * 2^s + lo / 2^(bl y) * 18446744073709551616 := by
   rw [← pp, ← Nat.mul_assoc, ← Nat.add_mul, Nat.mul_comm (lo / _), Nat.add_comm, lh]
  have l3 : lo % 2^(bl y) * 2^s < 18446744073709551616 := by rw [← pp]; exact Nat.mul_lt_mul_of_pos_right ll pS
  rw [e, Nat.add_mul_mod_self_right, Nat.mod_eq_of_lt l3]
 have e2 : (hi * 18446744073709551616 + lo) * 2^s = (hi * 2^s + lo / 2^(bl y)) * 18446744073709551616 + lo % 2^(bl y) * 2^s := by
  have e : lo * 2^s = lo % 2^(bl y) * 2^s + lo / 2^(bl y) * 18446744073709551616 := by
   rw [← pp, ← Nat.mul_assoc, ← Nat.add_mul, Nat.mul_comm (lo / _), Nat.add_comm, lh]
  rw [Nat.add_mul, e, Nat.mul_right_comm, Nat.add_mul (hi * 2^s)]
  omega
 have hm1 := Nat.mod_eq_of_lt v1
 have hm2 : hi * 2^s % 18446744073709551616 = hi * 2^s := Nat.mod_eq_of_lt (by omega)
 rw [l2, hm1, hm2]
 have hor : Go.bits .or .u64 ((hi * 2^s : Nat) : Int) ((lo / 2^(bl y) : Nat) : Int) = ((hi * 2^s + lo / 2^(bl y) : Nat) : Int) := by
  rw [u64_or_nat _ _ (by omega) (by omega), Nat.mul_comm hi, ← Nat.two_pow_add_eq_or_of_lt l1]
 rw [hor]
 have l3 : lo % 2^(bl y) * 2^s < 18446744073709551616 := by rw [← pp]; exact Nat.mul_lt_mul_of_pos_right ll pS
 have q1 : (hi * 18446744073709551616 + lo) / y = (hi * 18446744073709551616 + lo) * 2^s / (y * 2^s) := (Nat.mul_div_mul_right _ _ pS).symm
 have q2 : (hi * 18446744073709551616 + lo) % y = (hi * 18446744073709551616 + lo) * 2^s % (y * 2^s) / 2^s := by rw [Nat.mul_mod_mul_right, Nat.mul_div_cancel _ pS]
 rw [q1, q2, e2]
 have hu : hi * 2^s + lo / 2^(bl y) < y * 2^s := by omega
 have hsl : s ≤ 64 := by omega
 generalize hi * 2^s + lo / 2^(bl y) = u at *
 generalize lo % 2^(bl y) * 2^s = t at *
 generalize y * 2^s = v at *
 clear q1 q2 e2 hor hm1 hm2 l2 lh ll pp pq h1 l1 y1 y2
 obtain ⟨a, ha⟩ : ∃ a, a = v / 4294967296 := ⟨_, rfl⟩
 obtain ⟨b, hb'⟩ : ∃ b, b = v % 4294967296 := ⟨_, rfl⟩
 obtain ⟨d, hd⟩ : ∃ d, d = t / 4294967296 := ⟨_, rfl⟩
 obtain ⟨e, he⟩ : ∃ e, e = t % 4294967296 := ⟨_, rfl⟩
 have hv : v = a * 4294967296 + b := by omega
 have r1 : shr .u64 (v : Int) 32 = (a : Int) := by rw [show (32 : Int) = ((32 : Nat) : Int) from rfl, shr_n v 32 (by decide), ha]
 have r2 : shr .u64 (t : Int) 32 = (d : Int) := by rw [show (32 : Int) = ((32 : Nat) : Int) from rfl, shr_n t 32 (by decide), hd]
 have r3 : Go.bits .and .u64 (v : Int) 4294967295 = (b : Int) := by rw [mask32 (by omega) (by omega)]; omega
 have r4 : Go.bits .and .u64 (t : Int) 4294967295 = (e : Int) := by rw [mask32 (by omega) (by omega)]; omega
 rw [r1, r2, r3, r4, q0_w (by omega), r0_w (by omega)]
 refine Ev.congr (fun k => if_pos (by omega)) (Ev.congr (fun k => if_pos (by omega)) (Ev.congr (fun k => if_neg (by omega)) ?_))
 have e3 : u * 18446744073709551616 + t = (u * 4294967296 + d) * 4294967296 + e := by omega
 obtain ⟨t1, t2⟩ := two_steps (u := u) (d := d) (e := e) (v := v) (by omega)
 rw [e3, ← t1, ← t2]
 have hx := shr_n (((u * 4294967296 + d) % v * 4294967296 + e) % v) s hsl
 subst hv
 obtain ⟨f1, f2, f3⟩ := first (v1 := a) (v0 := b) (u := u) (d := d) (by omega) (by omega) hu (by omega)
 have hr := Nat.mod_lt u (show 0 < a by omega)
 have J := j0_ev a b s u d e _ (by omega) (by omega) (by omega) hu (by omega) (by omega) rfl
 rw [hx] at J
 exact l0_ev a b s u d e (by omega) (by omega) (by omega) hu (by omega) _ J _ _ _ (Nat.add_sub_of_le f1) f2 (by omega) f3
end Go.Proofs.YtelfmddcjlocpaaGreatDoor.Dv
