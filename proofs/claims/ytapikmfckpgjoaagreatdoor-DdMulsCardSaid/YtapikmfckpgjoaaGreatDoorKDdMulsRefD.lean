/- What the reference's quotients by a digit, shifts to the right, and words of digits answer, told by numbers. Plain Lean over the printed functions. Conditions: lists of less than 2^38 digits, shifts below 2^40. What the reference's signed numbers, its numbers of patterns, and its rounding answer, told by whole numbers. Plain Lean over the printed functions. Conditions: numbers of less than 2^38 digits. -/
import Derived.Test.YtapikmfckpgjoaaGreatDoorKDdMulsRefB
import Derived.Test.YtapikmfckpgjoaaGreatDoorKDdMulsPRefx1
import Derived.Test.YtapikmfckpgjoaaGreatDoorKDdMulsPRefx2
import Derived.Test.YtapikmfckpgjoaaGreatDoorKDdMulsFl
import Derived.Test.YtapikmfckpgjoaaGreatDoorKDdMulsPxZ0
section
namespace Go.Proofs.YtapikmfckpgjoaaGreatDoor.Ref
open Go.RowKit Go.Proofs.YtapikmfckpgjoaaGreatDoorW.PrintWords Go.Proofs.YtapikmfckpgjoaaGreatDoorW.PrintMore Go.Proofs.YtapikmfckpgjoaaGreatDoor.Num Go.Proofs.YtapikmfckpgjoaaGreatDoor.PLib Go.Proofs.YtapikmfckpgjoaaGreatDoor.PRef
theorem dg_set {l : List Int} (h : Dg l) (i : Nat) {v : Int} (h0 : 0 ≤ v) (h1 : v < 4294967296) : Dg (l.set i v) := by
 intro x hx
 rcases List.mem_or_eq_of_mem_set hx with hx | rfl
 ·exact h x hx
 ·exact ⟨h0, h1⟩
theorem B2 : B * B = 18446744073709551616 := by decide
end Go.Proofs.YtapikmfckpgjoaaGreatDoor.Ref
end
section
namespace Go.Proofs.YtapikmfckpgjoaaGreatDoor.Ref
open Go.RowKit Go.Proofs.YtapikmfckpgjoaaGreatDoorW.PrintWords Go.Proofs.YtapikmfckpgjoaaGreatDoorW.PrintMore Go.Proofs.YtapikmfckpgjoaaGreatDoor.Num Go.Proofs.YtapikmfckpgjoaaGreatDoor.PLib Go.Proofs.YtapikmfckpgjoaaGreatDoor.PRef Fl
def zn (z : Int) : Bool := decide (z < 0)
def zl (z : Int) : List Int := dg z.natAbs
def Zs (z : Int) : Prop := (dg z.natAbs).length < 274877906944
theorem Zs_of {z : Int} {k : Nat} (h : z.natAbs < 2^k) (hk : k ≤ 8796093022000) : Zs z := by
 unfold Zs
 have h2 : z.natAbs < B^(k / 32 + 1) := by
  rw [pw_B]
  exact Nat.lt_of_lt_of_le h (Nat.pow_le_pow_right (by decide) (by omega))
 have := dg_len_le h2
 omega
theorem zmk_ev (neg : Bool) (n : Nat) (hn : (dg n).length < 1099511627776) (z : Int) (hz : z.natAbs = n) (hs : n ≠ 0 → neg = decide (z < 0)) : Ev (fun k => gnomonref04_Mk.f k neg (dg n)) (zn z, zl z) := by
 have h := mk_ev neg n hn
 have e : (neg && decide (n ≠ 0), dg n) = (zn z, zl z) := by
  unfold zn zl
  rw [hz]
  by_cases h0 : n = 0
  ·have : z = 0 := by omega
   subst this
   simp [h0]
  ·rw [hs h0]; simp [h0]
 rw [← e]; exact h
theorem pair_some {α β : Type} {g : Nat → Option (α × β)} {r : α × β} (h : Ev g r) : Ev (fun k => (g k).bind fun t => some (t.1, t.2)) r := Ev.bind h (Ev.now _)
theorem zadd_ev (a b : Int) (ha : Zs a) (hb : Zs b) (hab : Zs (a + b)) : Ev (fun k => gnomonref04_Add.f k (zn a) (zl a) (zn b) (zl b)) (zn (a + b), zl (a + b)) := by
 unfold gnomonref04_Add.f
 unfold Zs at ha hb hab
 by_cases hs : zn a = zn b
 ·have c : (zn a == zn b) = true := by rw [hs]; simp
  first
  | simp only [if_pos c]
  | simp only [if_pos hs]
  unfold zn at hs
  have hs' := decide_eq_decide.1 hs
  have e : (a + b).natAbs = a.natAbs + b.natAbs := by omega
  rw [e] at hab
  refine Ev.bind (add_ev a.natAbs b.natAbs (by omega) (by omega)) (pair_some ?_)
  exact zmk_ev _ _ (by omega) (a + b) e (fun _ => by unfold zn; exact decide_eq_decide.2 (by omega))
 ·have c : ¬ (zn a == zn b) = true := by simpa using hs
  first
  | simp only [if_neg c]
  | simp only [if_neg hs]
  unfold zn at hs
  have hs' : ¬ ((a < 0) ↔ (b < 0)) := fun h => hs (decide_eq_decide.2 h)
  refine Ev.bind (cmp_ev a.natAbs b.natAbs (by omega) (by omega)) ?_
  by_cases hle : b.natAbs ≤ a.natAbs
  ·have c2 : cmp3 a.natAbs b.natAbs ≥ 0 := by unfold cmp3; rw [if_neg (by omega)]; split <;> omega
   simp only [if_pos c2]
   have e : (a + b).natAbs = a.natAbs - b.natAbs := by omega
   rw [e] at hab
   refine Ev.bind (sub_ev a.natAbs b.natAbs (by omega) (by omega)) (pair_some ?_)
   exact zmk_ev _ _ (by omega) (a + b) e (fun _ => by unfold zn; exact decide_eq_decide.2 (by omega))
  ·have c2 : ¬ cmp3 a.natAbs b.natAbs ≥ 0 := by unfold cmp3; rw [if_pos (by omega)]; omega
   simp only [if_neg c2]
   have e : (a + b).natAbs = b.natAbs - a.natAbs := by omega
   rw [e] at hab
   refine Ev.bind (sub_ev b.natAbs a.natAbs (by omega) (by omega)) (pair_some ?_)
   exact zmk_ev _ _ (by omega) (a + b) e (fun _ => by unfold zn; exact decide_eq_decide.2 (by omega))
theorem zflip_ev (a : Int) (ha : Zs a) : Ev (fun k => gnomonref04_Flip.f k (zn a) (zl a)) (zn (-a), zl (-a)) := by
 unfold gnomonref04_Flip.f
 unfold Zs at ha
 refine pair_some ?_
 exact zmk_ev _ _ (by omega) (-a) (Int.natAbs_neg a) (fun h => by
  unfold zn
  by_cases h0 : a < 0
  ·rw [decide_eq_true h0]; symm; simp; omega
  ·rw [decide_eq_false h0]; symm; simp; omega)
theorem Zs_neg {a : Int} (h : Zs a) : Zs (-a) := by unfold Zs at *; rw [Int.natAbs_neg]; exact h
theorem zsub_ev (a b : Int) (ha : Zs a) (hb : Zs b) (hab : Zs (a - b)) : Ev (fun k => gnomonref04_Sub.f k (zn a) (zl a) (zn b) (zl b)) (zn (a - b), zl (a - b)) := by
 unfold gnomonref04_Sub.f
 refine Ev.bind (zflip_ev b hb) (pair_some ?_)
 exact zadd_ev a (-b) ha (Zs_neg hb) hab
def sgn (z : Int) : Int := if z = 0 then 0 else if z < 0 then -1 else 1
theorem zsign (a : Int) : gnomonref04_Sign.f (zn a) (zl a) = some (sgn a) := by
 unfold gnomonref04_Sign.f sgn zn zl
 by_cases h : a = 0
 ·subst h
  have e : ((dg (0 : Int).natAbs).length : Int) = 0 := by rw [Int.natAbs_zero, dg_zero]; rfl
  rw [if_pos e, if_pos rfl]
 ·have e : ¬ ((dg a.natAbs).length : Int) = 0 := by
   have := dg_len_zero (n := a.natAbs); omega
  rw [if_neg e, if_neg h]
  by_cases h2 : a < 0
  ·rw [if_pos (decide_eq_true h2), if_pos h2]
  ·rw [if_neg (by simpa using h2), if_neg h2]
theorem zcmp_ev (a b : Int) (ha : Zs a) (hb : Zs b) (hab : Zs (a - b)) : Ev (fun k => gnomonref04_Cmp.f k (zn a) (zl a) (zn b) (zl b)) (sgn (a - b)) := by
 unfold gnomonref04_Cmp.f
 refine Ev.bind (zsub_ev a b ha hb hab) ?_
 simp only [zsign, Option.bind_some]
 exact Ev.now _
theorem natAbs_shl (a : Int) (n : Nat) : (a * 2^n).natAbs = a.natAbs * 2^n := by rw [Int.natAbs_mul, Int.natAbs_pow]; rfl
theorem shl_neg (a : Int) (n : Nat) : (a * 2^n < 0) ↔ (a < 0) := (pos_of_mul (a := a) (k := n)).1
theorem zshl_ev (a : Int) (n : Nat) (ha : Zs a) (hn : n < 1099511627776) (hr : Zs (a * 2^n)) : Ev (fun k => gnomonref04_Shl.f k (zn a) (zl a) (n : Int)) (zn (a * 2^n), zl (a * 2^n)) := by
 unfold gnomonref04_Shl.f
 unfold Zs at ha hr
 rw [natAbs_shl] at hr
 refine Ev.bind (shl_ev a.natAbs n ha hn) (pair_some ?_)
 exact zmk_ev _ _ (by omega) (a * 2^n) (natAbs_shl a n) (fun _ => by unfold zn; exact decide_eq_decide.2 (shl_neg a n).symm)
theorem zof_ev (i : Int) (h0 : 0 ≤ i) (h1 : i < 9223372036854775808) : Ev (fun k => gnomonref04_Of.f k i) (zn i, zl i) := by
 unfold gnomonref04_Of.f
 have c : ¬ i < 0 := by omega
 simp only [if_neg c, wu64 h0 (show i < 18446744073709551616 by omega)]
 have hl : (dg i.toNat).length ≤ 2 := dg_len_le (by rw [Nat.pow_two, B2]; omega)
 refine Ev.bind (word_ev i h0 (by omega)) (pair_some ?_)
 exact zmk_ev false _ (by omega) i (by omega) (fun _ => (decide_eq_false c).symm)
theorem dg_len_bits {n k : Nat} (h : n < 2^k) (hk : k ≤ 8796093022000) : (dg n).length < 274877906944 := by
 have := Zs_of (z := (n : Int)) (k := k) (by simpa using h) hk
 unfold Zs at this; simpa using this
end Go.Proofs.YtapikmfckpgjoaaGreatDoor.Ref
end
