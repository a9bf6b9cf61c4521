/- What the reference's signed numbers, its numbers of patterns, and its rounding answer, told by whole numbers. Plain Lean over the printed functions. Conditions: numbers of less than 2^38 digits. -/
import Derived.Test.YtbgmadijifefiaaKAcceptAllRefC
import Derived.Test.YtbgmadijifefiaaKAcceptAllFl
import Derived.Test.YtbgmadijifefiaaKAcceptAllPLibx4
import Derived.Test.YtbgmadijifefiaaKAcceptAllPLibx6
import Derived.Test.YtbgmadijifefiaaKAcceptAllPLibx5
import Derived.Test.YtbgmadijifefiaaKAcceptAllPLibx2
import Derived.Test.YtbgmadijifefiaaKAcceptAllPLibx7
import Derived.Test.YtbgmadijifefiaaKAcceptAllPLibx8
import Derived.Test.YtbgmadijifefiaaKAcceptAllPLibx9
namespace Go.Proofs.Ytbgmadijifefiaa.Ref
open Go.RowKit Go.Proofs.YtbgmadijifefiaaW.PrintWords Go.Proofs.YtbgmadijifefiaaW.PrintMore Go.Proofs.Ytbgmadijifefiaa.Num Go.Proofs.Ytbgmadijifefiaa.PLib Fl
def zn (z : Int) : Bool := decide (z < 0)
def zl (z : Int) : List Int := dg z.natAbs
def Zs (z : Int) : Prop := (dg z.natAbs).length < 274877906944
theorem Zs_of {z : Int} {k : Nat} (h : z.natAbs < 2^k) (hk : k ≤ 8796093022000) : Zs z := by
 unfold Zs
 have h2 : z.natAbs < B^(k / 32 + 1) := by
  rw [pw_B]
  exact Nat.lt_of_lt_of_le h (Nat.pow_le_pow_right (by decide) (by omega))
 have := dg_len_le h2
 omega
theorem zmk_ev (neg : Bool) (n : Nat) (hn : (dg n).length < 1099511627776) (z : Int) (hz : z.natAbs = n) (hs : n ≠ 0 → neg = decide (z < 0)) : Ev (fun k => gnomonref04_Mk.f k neg (dg n)) (zn z, zl z) := by
 have h := mk_ev neg n hn
 have e : (neg && decide (n ≠ 0), dg n) = (zn z, zl z) := by
  unfold zn zl
  rw [hz]
  by_cases h0 : n = 0
  ·have : z = 0 := by omega
   subst this
   simp [h0]
  ·rw [hs h0]; simp [h0]
 rw [← e]; exact h
theorem pair_some {α β : Type} {g : Nat → Option (α × β)} {r : α × β} (h : Ev g r) : Ev (fun k => (g k).bind fun t => some (t.1, t.2)) r := Ev.bind h (Ev.now _)
theorem zadd_ev (a b : Int) (ha : Zs a) (hb : Zs b) (hab : Zs (a + b)) : Ev (fun k => gnomonref04_Add.f k (zn a) (zl a) (zn b) (zl b)) (zn (a + b), zl (a + b)) := by
 unfold gnomonref04_Add.f
 unfold Zs at ha hb hab
 by_cases hs : zn a = zn b
 ·have c : (zn a == zn b) = true := by rw [hs]; simp
  simp only [if_pos c]
  unfold zn at hs
  have hs' := decide_eq_decide.1 hs
  have e : (a + b).natAbs = a.natAbs + b.natAbs := by omega
  rw [e] at hab
  refine Ev.bind (add_ev a.natAbs b.natAbs (by omega) (by omega)) (pair_some ?_)
  exact zmk_ev _ _ (by omega) (a + b) e (fun _ => by unfold zn; exact decide_eq_decide.2 (by omega))
 ·have c : ¬ (zn a == zn b) = true := by simpa using hs
  simp only [if_neg c]
  unfold zn at hs
  have hs' : ¬ ((a < 0) ↔ (b < 0)) := fun h => hs (decide_eq_decide.2 h)
  refine Ev.bind (cmp_ev a.natAbs b.natAbs (by omega) (by omega)) ?_
  by_cases hle : b.natAbs ≤ a.natAbs
  ·have c2 : cmp3 a.natAbs b.natAbs ≥ 0 := by unfold cmp3; rw [if_neg (by omega)]; split <;> omega
   simp only [if_pos c2]
   have e : (a + b).natAbs = a.natAbs - b.natAbs := by omega
   rw [e] at hab
   refine Ev.bind (sub_ev a.natAbs b.natAbs (by omega) (by omega)) (pair_some ?_)
   exact zmk_ev _ _ (by omega) (a + b) e (fun _ => by unfold zn; exact decide_eq_decide.2 (by omega))
  ·have c2 : ¬ cmp3 a.natAbs b.natAbs ≥ 0 := by unfold cmp3; rw [if_pos (by omega)]; omega
   simp only [if_neg c2]
   have e : (a + b).natAbs = b.natAbs - a.natAbs := by omega
   rw [e] at hab
   refine Ev.bind (sub_ev b.natAbs a.natAbs (by omega) (by omega)) (pair_some ?_)
   exact zmk_ev _ _ (by omega) (a + b) e (fun _ => by unfold zn; exact decide_eq_decide.2 (by omega))
theorem zflip_ev (a : Int) (ha : Zs a) : Ev (fun k => gnomonref04_Flip.f k (zn a) (zl a)) (zn (-a), zl (-a)) := by
 unfold gnomonref04_Flip.f
 unfold Zs at ha
 refine pair_some ?_
 exact zmk_ev _ _ (by omega) (-a) (Int.natAbs_neg a) (fun h => by
  unfold zn
  by_cases h0 : a < 0
  ·rw [decide_eq_true h0]; symm; simp; omega
  ·rw [decide_eq_false h0]; symm; simp; omega)
theorem Zs_neg {a : Int} (h : Zs a) : Zs (-a) := by unfold Zs at *; rw [Int.natAbs_neg]; exact h
theorem zsub_ev (a b : Int) (ha : Zs a) (hb : Zs b) (hab : Zs (a - b)) : Ev (fun k => gnomonref04_Sub.f k (zn a) (zl a) (zn b) (zl b)) (zn (a - b), zl (a - b)) := by
 unfold gnomonref04_Sub.f
 refine Ev.bind (zflip_ev b hb) (pair_some ?_)
 exact zadd_ev a (-b) ha (Zs_neg hb) hab
def sgn (z : Int) : Int := if z = 0 then 0 else if z < 0 then -1 else 1
theorem zsign (a : Int) : gnomonref04_Sign.f (zn a) (zl a) = some (sgn a) := by
 unfold gnomonref04_Sign.f sgn zn zl
 by_cases h : a = 0
 ·subst h
  have e : ((dg (0 : Int).natAbs).length : Int) = 0 := by rw [Int.natAbs_zero, dg_zero]; rfl
  rw [if_pos e, if_pos rfl]
 ·have e : ¬ ((dg a.natAbs).length : Int) = 0 := by
   have := dg_len_zero (n := a.natAbs); omega
  rw [if_neg e, if_neg h]
  by_cases h2 : a < 0
  ·rw [if_pos (decide_eq_true h2), if_pos h2]
  ·rw [if_neg (by simpa using h2), if_neg h2]
theorem zcmp_ev (a b : Int) (ha : Zs a) (hb : Zs b) (hab : Zs (a - b)) : Ev (fun k => gnomonref04_Cmp.f k (zn a) (zl a) (zn b) (zl b)) (sgn (a - b)) := by
 unfold gnomonref04_Cmp.f
 refine Ev.bind (zsub_ev a b ha hb hab) ?_
 simp only [zsign, Option.bind_some]
 exact Ev.now _
theorem natAbs_shl (a : Int) (n : Nat) : (a * 2^n).natAbs = a.natAbs * 2^n := by rw [Int.natAbs_mul, Int.natAbs_pow]; rfl
theorem shl_neg (a : Int) (n : Nat) : (a * 2^n < 0) ↔ (a < 0) := (pos_of_mul (a := a) (k := n)).1
theorem zshl_ev (a : Int) (n : Nat) (ha : Zs a) (hn : n < 1099511627776) (hr : Zs (a * 2^n)) : Ev (fun k => gnomonref04_Shl.f k (zn a) (zl a) (n : Int)) (zn (a * 2^n), zl (a * 2^n)) := by
 unfold gnomonref04_Shl.f
 unfold Zs at ha hr
 rw [natAbs_shl] at hr
 refine Ev.bind (shl_ev a.natAbs n ha hn) (pair_some ?_)
 exact zmk_ev _ _ (by omega) (a * 2^n) (natAbs_shl a n) (fun _ => by unfold zn; exact decide_eq_decide.2 (shl_neg a n).symm)
theorem zof_ev (i : Int) (h0 : 0 ≤ i) (h1 : i < 9223372036854775808) : Ev (fun k => gnomonref04_Of.f k i) (zn i, zl i) := by
 unfold gnomonref04_Of.f
 have c : ¬ i < 0 := by omega
 simp only [if_neg c, wu64 h0 (show i < 18446744073709551616 by omega)]
 have hl : (dg i.toNat).length ≤ 2 := dg_len_le (by rw [Nat.pow_two, B2]; omega)
 refine Ev.bind (word_ev i h0 (by omega)) (pair_some ?_)
 exact zmk_ev false _ (by omega) i (by omega) (fun _ => (decide_eq_false c).symm)
theorem sz_int (a : Nat) : Int.tmod (a : Int) 9223372036854775808 = ((sz a : Nat) : Int) := by rw [Int.tmod_eq_emod_of_nonneg (by omega)]; rfl
theorem shl_u64 (r : Nat) (h : r < 64) : shl .u64 1 (r : Int) = ((2^r : Nat) : Int) := by
 unfold shl
 have e : min ((r : Int)).toNat IntKind.u64.bits = r := by
  have : IntKind.u64.bits = 64 := rfl
  rw [this]; omega
 rw [e, Int.one_mul, IntKind.wrap_u64]
 have h1 : 2^r < 2^64 := Nat.pow_lt_pow_right (by decide) h
 have h2 : ((2:Int)^r) = ((2^r : Nat) : Int) := by push_cast; rfl
 rw [h2]
 generalize 2^r = P at *
 omega
theorem parts_ev (s : Nat) (hs : s < 18446744073709551616) : gnomonref07_Parts.f 9223372036854775808 53 (-1074) 971 9218868437227405312 9221120237041090561 (s : Int) =
  some (if s / 2^52 = 0 then ((s % 2^52 : Nat) : Int) else ((2^52 + s % 2^52 : Nat) : Int), (-1074 : Int) + ((s / 2^52 - 1 : Nat) : Int)) := by
 have c1 : wrap64 (53 - 1) = ((52 : Nat) : Int) := by rw [w64 (by omega) (by omega)]; rfl
 have hsh := shl_u64 52 (by decide)
 have e52 : (2:Nat)^52 = 4503599627370496 := by decide
 unfold gnomonref07_Parts.f
 rw [c1, if_pos (by decide), hsh, e52, if_neg (by decide)]
 have eq : Int.tdiv (s : Int) ((4503599627370496 : Nat) : Int) = ((s / 4503599627370496 : Nat) : Int) := by rw [Int.tdiv_eq_ediv_of_nonneg (by omega)]; rfl
 have er : Int.tmod (s : Int) ((4503599627370496 : Nat) : Int) = ((s % 4503599627370496 : Nat) : Int) := by rw [Int.tmod_eq_emod_of_nonneg (by omega)]; rfl
 rw [eq, er, wu64 (by omega) (by omega)]
 by_cases h : s / 4503599627370496 = 0
 ·rw [if_pos (by omega), if_pos h, h]; rfl
 ·rw [if_neg (by omega), if_neg h, wu64 (by omega) (by omega), w64 (x := ((s / 4503599627370496 : Nat) : Int)) (by omega) (by omega), w64 (x := -1074 + ((s / 4503599627370496 : Nat) : Int)) (by omega) (by omega), w64 (by omega) (by omega)]
  congr 2
  omega
theorem mg_parts (s : Nat) : (if s / 2^52 = 0 then s % 2^52 else 2^52 + s % 2^52) * 2^(s / 2^52 - 1) = mg s := by
 unfold mg
 by_cases h : s / 2^52 = 0
 ·rw [if_pos h, if_pos (by omega), h]; simp; omega
 ·rw [if_neg h, if_neg (by omega)]
theorem mg_bound (s : Nat) : mg s < 2^(53 + s / 2^52) := by
 have h1 := mg_parts s
 have h2 : (if s / 2^52 = 0 then s % 2^52 else 2^52 + s % 2^52) < 2^53 := by split <;> omega
 rw [← h1, Nat.pow_add]
 have h3 : 2^(s / 2^52 - 1) ≤ 2^(s / 2^52) := Nat.pow_le_pow_right (by decide) (by omega)
 exact Nat.lt_of_lt_of_le (Nat.mul_lt_mul_of_pos_right h2 (Nat.two_pow_pos _)) (Nat.mul_le_mul_left _ h3)
theorem dg_len_bits {n k : Nat} (h : n < 2^k) (hk : k ≤ 8796093022000) : (dg n).length < 274877906944 := by
 have := Zs_of (z := (n : Int)) (k := k) (by simpa using h) hk
 unfold Zs at this; simpa using this
theorem whole_ev (b : Nat) (hb : b < 18446744073709551616) : Ev (fun k => gnomonref07_Whole.f k 9223372036854775808 53 (-1074) 971 9218868437227405312 9221120237041090561 (b : Int)) (zn (U b), zl (U b)) := by
 have hcut : gnomonref07_Cut.f 9223372036854775808 53 (-1074) 971 9218868437227405312 9221120237041090561 (b : Int) = some (ng b, ((sz b : Nat) : Int)) := by
  unfold gnomonref07_Cut.f
  rw [if_neg (by decide), sz_int]
  have : decide ((b : Int) ≥ 9223372036854775808) = ng b := by
   unfold ng
   by_cases h : 9223372036854775808 ≤ b
   ·rw [decide_eq_true (by omega)]
    have : b / 2^63 % 2 = 1 := by omega
    rw [this]; rfl
   ·rw [decide_eq_false (by omega)]
    have : b / 2^63 % 2 = 0 := by omega
    rw [this]; rfl
  rw [this]
 have hsz : sz b < 2^63 := Nat.mod_lt _ (by decide)
 have hp := parts_ev (sz b) (by omega)
 have hmg := mg_parts (sz b)
 have hbd := mg_bound (sz b)
 unfold gnomonref07_Whole.f
 simp only [hcut, Option.bind_some, hp]
 obtain ⟨m, hm⟩ : ∃ m : Nat, (if sz b / 2^52 = 0 then sz b % 2^52 else 2^52 + sz b % 2^52) = m := ⟨_, rfl⟩
 have hmi : (if sz b / 2^52 = 0 then ((sz b % 2^52 : Nat) : Int) else ((2^52 + sz b % 2^52 : Nat) : Int)) = (m : Int) := by rw [← hm]; split <;> rfl
 rw [hm] at hmg
 have hm53 : m < 2^53 := by rw [← hm]; split <;> omega
 have he : wrap64 ((-1074 : Int) + ((sz b / 2^52 - 1 : Nat) : Int) - (-1074)) = ((sz b / 2^52 - 1 : Nat) : Int) := by
  have : sz b / 2^52 - 1 < 2048 := by omega
  rw [w64 (by omega) (by omega)]; omega
 simp only [hmi, he]
 have hw := word_ev (m : Int) (by omega) (by omega)
 rw [Int.toNat_natCast] at hw
 refine Ev.bind hw ?_
 have hs := shl_ev m (sz b / 2^52 - 1) (by have := dg_len_le (n := m) (k := 2) (by rw [Nat.pow_two, B2]; omega); omega) (by omega)
 rw [hmg] at hs
 refine Ev.bind hs (pair_some ?_)
 have hlen := dg_len_bits hbd (by omega)
 exact zmk_ev (ng b) (mg (sz b)) (by omega) (U b) (U_natAbs b) (fun h0 => by
  unfold U
  cases ng b
  ·symm; simp
  ·symm; simp; omega)
theorem units_ev (b : Nat) (hb : b < 18446744073709551616) : Ev (fun k => gnomonref19_Units.f k (b : Int)) (zn (U b), zl (U b)) := by
 have hd : gnomonref19_double.f = some (9223372036854775808, 53, -1074, 971, 9218868437227405312, 9221120237041090561) := by decide
 unfold gnomonref19_Units.f
 simp only [hd, Option.bind_some]
 exact pair_some (whole_ev b hb)
end Go.Proofs.Ytbgmadijifefiaa.Ref
