/- Rounding of whole numbers to 53 binary digits (to nearest, ties to even), the exact sums and products of floats, and the model's binary64 words as whole numbers of units 2^-1074. Plain Lean; no program in sight. No condition. What the reference's signed numbers, its numbers of patterns, and its rounding answer, told by whole numbers. Plain Lean over the printed functions. Conditions: numbers of less than 2^38 digits. The reference's numbers of a format's patterns, and its question for the nearest one: plain Lean over the functions. Conditions: words; formats. Which whole numbers are numbers of a format; differences of near ones (Sterbenz); errors of sums. Plain Lean. Conditions: formats. -/
import Ieee.Arith
import Derived.Laws.FloatBits
import Derived.Test.YtokoadgahflafaaGreatDoorKSoftSterbenzRefB
import Derived.Test.YtokoadgahflafaaGreatDoorKSoftSterbenzPRefx2
import Derived.Test.YtokoadgahflafaaGreatDoorKSoftSterbenzPRefx1
import Derived.Test.YtokoadgahflafaaGreatDoorKSoftSterbenzPxZ0
import Derived.Test.YtokoadgahflafaaGreatDoorKSoftSterbenzPxL0
import Derived.Test.YtokoadgahflafaaGreatDoorKSoftSterbenzPxL1
import Derived.Test.YtokoadgahflafaaGreatDoorKSoftSterbenzPxL2
import Derived.Test.YtokoadgahflafaaGreatDoorKSoftSterbenzPxL3
import Derived.Test.YtokoadgahflafaaGreatDoorKSoftSterbenzPxL4
import Derived.Test.YtokoadgahflafaaGreatDoorKSoftSterbenzPxBr
import Derived.Test.YtokoadgahflafaaGreatDoorKSoftSterbenzGM
import Derived.Test.YtokoadgahflafaaGreatDoorKSoftSterbenzPxMul
import Derived.Test.YtokoadgahflafaaGreatDoorKSoftSterbenzPxR0
import Derived.Test.YtokoadgahflafaaGreatDoorKSoftSterbenzPxOp
import Derived.Test.YtokoadgahflafaaGreatDoorKSoftSterbenzPRefx0
import Derived.Test.YtokoadgahflafaaGreatDoorKSoftSterbenzPRefx3
import Derived.Test.YtokoadgahflafaaGreatDoorKSoftSterbenzRnd
section
namespace Fl
theorem pw (k : Nat) : 0 < (2:Nat)^k := Nat.two_pow_pos k
theorem ipw (k : Nat) : 0 < (2:Int)^k := Int.pow_pos (by decide)
end Fl
namespace Fl
def hx (g : Nat) (a : Int) : Nat := max (a.natAbs.log2 + 1 - 26) g
end Fl
namespace Fl
open Ieee
def sz (w : Nat) : Nat := w % 2^63
def ng (w : Nat) : Bool := w / 2^63 % 2 == 1
def INF : Nat := 2047 * 2^52
def fin (w : Nat) : Prop := sz w < INF
def mg (r : Nat) : Nat := if r < 2^52 then r else (2^52 + r % 2^52) * 2^(r / 2^52 - 1)
def U (w : Nat) : Int := if ng w then -(mg (sz w) : Nat) else (mg (sz w) : Nat)
end Fl
namespace Fl
open Ieee
noncomputable def TE : Nat := Classical.choose (⟨2045, rfl⟩ : ∃ n : Nat, n = 2045)
noncomputable def top (g : Nat) : Nat := (2^53 - 1) * 2^(TE + g)
theorem pos_of_mul {a : Int} {k : Nat} : (a * 2^k < 0 ↔ a < 0) ∧ (a * 2^k = 0 ↔ a = 0) := by
 have hp := ipw k
 constructor
 ·constructor
  ·intro h
   by_cases hc : a < 0
   ·exact hc
   ·have := Int.mul_nonneg (show 0 ≤ a by omega) (Int.le_of_lt hp); omega
  ·intro h; exact Int.mul_neg_of_neg_of_pos h hp
 ·constructor
  ·intro h; rcases Int.mul_eq_zero.1 h with h | h <;> omega
  ·intro h; rw [h]; simp
end Fl
end
section
namespace Go.Proofs.YtokoadgahflafaaGreatDoor.Ref
open Go.RowKit Go.Proofs.YtokoadgahflafaaGreatDoorW.PrintWords Go.Proofs.YtokoadgahflafaaGreatDoorW.PrintMore Go.Proofs.YtokoadgahflafaaGreatDoor.Num Go.Proofs.YtokoadgahflafaaGreatDoor.PLib Go.Proofs.YtokoadgahflafaaGreatDoor.PRef Fl
def zn (z : Int) : Bool := decide (z < 0)
def zl (z : Int) : List Int := dg z.natAbs
def Zs (z : Int) : Prop := (dg z.natAbs).length < 274877906944
theorem Zs_of {z : Int} {k : Nat} (h : z.natAbs < 2^k) (hk : k ≤ 8796093022000) : Zs z := by
 unfold Zs
 have h2 : z.natAbs < B^(k / 32 + 1) := by
  rw [pw_B]
  exact Nat.lt_of_lt_of_le h (Nat.pow_le_pow_right (by decide) (by omega))
 have := dg_len_le h2
 omega
theorem zmk_ev (neg : Bool) (n : Nat) (hn : (dg n).length < 1099511627776) (z : Int) (hz : z.natAbs = n) (hs : n ≠ 0 → neg = decide (z < 0)) : Ev (fun k => gnomonref04_Mk.f k neg (dg n)) (zn z, zl z) := by
 have h := mk_ev neg n hn
 have e : (neg && decide (n ≠ 0), dg n) = (zn z, zl z) := by
  unfold zn zl
  rw [hz]
  by_cases h0 : n = 0
  ·have : z = 0 := by omega
   subst this
   simp [h0]
  ·rw [hs h0]; simp [h0]
 rw [← e]; exact h
theorem pair_some {α β : Type} {g : Nat → Option (α × β)} {r : α × β} (h : Ev g r) : Ev (fun k => (g k).bind fun t => some (t.1, t.2)) r := Ev.bind h (Ev.now _)
theorem zadd_ev (a b : Int) (ha : Zs a) (hb : Zs b) (hab : Zs (a + b)) : Ev (fun k => gnomonref04_Add.f k (zn a) (zl a) (zn b) (zl b)) (zn (a + b), zl (a + b)) := by
 unfold gnomonref04_Add.f
 unfold Zs at ha hb hab
 by_cases hs : zn a = zn b
 ·have c : (zn a == zn b) = true := by rw [hs]; simp
  first
  | simp only [if_pos c]
  | simp only [if_pos hs]
  unfold zn at hs
  have hs' := decide_eq_decide.1 hs
  have e : (a + b).natAbs = a.natAbs + b.natAbs := by omega
  rw [e] at hab
  refine Ev.bind (add_ev a.natAbs b.natAbs (by omega) (by omega)) (pair_some ?_)
  exact zmk_ev _ _ (by omega) (a + b) e (fun _ => by unfold zn; exact decide_eq_decide.2 (by omega))
 ·have c : ¬ (zn a == zn b) = true := by simpa using hs
  first
  | simp only [if_neg c]
  | simp only [if_neg hs]
  unfold zn at hs
  have hs' : ¬ ((a < 0) ↔ (b < 0)) := fun h => hs (decide_eq_decide.2 h)
  refine Ev.bind (cmp_ev a.natAbs b.natAbs (by omega) (by omega)) ?_
  by_cases hle : b.natAbs ≤ a.natAbs
  ·have c2 : cmp3 a.natAbs b.natAbs ≥ 0 := by unfold cmp3; rw [if_neg (by omega)]; split <;> omega
   simp only [if_pos c2]
   have e : (a + b).natAbs = a.natAbs - b.natAbs := by omega
   rw [e] at hab
   refine Ev.bind (sub_ev a.natAbs b.natAbs (by omega) (by omega)) (pair_some ?_)
   exact zmk_ev _ _ (by omega) (a + b) e (fun _ => by unfold zn; exact decide_eq_decide.2 (by omega))
  ·have c2 : ¬ cmp3 a.natAbs b.natAbs ≥ 0 := by unfold cmp3; rw [if_pos (by omega)]; omega
   simp only [if_neg c2]
   have e : (a + b).natAbs = b.natAbs - a.natAbs := by omega
   rw [e] at hab
   refine Ev.bind (sub_ev b.natAbs a.natAbs (by omega) (by omega)) (pair_some ?_)
   exact zmk_ev _ _ (by omega) (a + b) e (fun _ => by unfold zn; exact decide_eq_decide.2 (by omega))
theorem zflip_ev (a : Int) (ha : Zs a) : Ev (fun k => gnomonref04_Flip.f k (zn a) (zl a)) (zn (-a), zl (-a)) := by
 unfold gnomonref04_Flip.f
 unfold Zs at ha
 refine pair_some ?_
 exact zmk_ev _ _ (by omega) (-a) (Int.natAbs_neg a) (fun h => by
  unfold zn
  by_cases h0 : a < 0
  ·rw [decide_eq_true h0]; symm; simp; omega
  ·rw [decide_eq_false h0]; symm; simp; omega)
theorem Zs_neg {a : Int} (h : Zs a) : Zs (-a) := by unfold Zs at *; rw [Int.natAbs_neg]; exact h
theorem zsub_ev (a b : Int) (ha : Zs a) (hb : Zs b) (hab : Zs (a - b)) : Ev (fun k => gnomonref04_Sub.f k (zn a) (zl a) (zn b) (zl b)) (zn (a - b), zl (a - b)) := by
 unfold gnomonref04_Sub.f
 refine Ev.bind (zflip_ev b hb) (pair_some ?_)
 exact zadd_ev a (-b) ha (Zs_neg hb) hab
def sgn (z : Int) : Int := if z = 0 then 0 else if z < 0 then -1 else 1
theorem zsign (a : Int) : gnomonref04_Sign.f (zn a) (zl a) = some (sgn a) := by
 unfold gnomonref04_Sign.f sgn zn zl
 by_cases h : a = 0
 ·subst h
  have e : ((dg (0 : Int).natAbs).length : Int) = 0 := by rw [Int.natAbs_zero, dg_zero]; rfl
  rw [if_pos e, if_pos rfl]
 ·have e : ¬ ((dg a.natAbs).length : Int) = 0 := by
   have := dg_len_zero (n := a.natAbs); omega
  rw [if_neg e, if_neg h]
  by_cases h2 : a < 0
  ·rw [if_pos (decide_eq_true h2), if_pos h2]
  ·rw [if_neg (by simpa using h2), if_neg h2]
theorem zcmp_ev (a b : Int) (ha : Zs a) (hb : Zs b) (hab : Zs (a - b)) : Ev (fun k => gnomonref04_Cmp.f k (zn a) (zl a) (zn b) (zl b)) (sgn (a - b)) := by
 unfold gnomonref04_Cmp.f
 refine Ev.bind (zsub_ev a b ha hb hab) ?_
 simp only [zsign, Option.bind_some]
 exact Ev.now _
theorem natAbs_shl (a : Int) (n : Nat) : (a * 2^n).natAbs = a.natAbs * 2^n := by rw [Int.natAbs_mul, Int.natAbs_pow]; rfl
theorem shl_neg (a : Int) (n : Nat) : (a * 2^n < 0) ↔ (a < 0) := (pos_of_mul (a := a) (k := n)).1
theorem zshl_ev (a : Int) (n : Nat) (ha : Zs a) (hn : n < 1099511627776) (hr : Zs (a * 2^n)) : Ev (fun k => gnomonref04_Shl.f k (zn a) (zl a) (n : Int)) (zn (a * 2^n), zl (a * 2^n)) := by
 unfold gnomonref04_Shl.f
 unfold Zs at ha hr
 rw [natAbs_shl] at hr
 refine Ev.bind (shl_ev a.natAbs n ha hn) (pair_some ?_)
 exact zmk_ev _ _ (by omega) (a * 2^n) (natAbs_shl a n) (fun _ => by unfold zn; exact decide_eq_decide.2 (shl_neg a n).symm)
theorem dg_len_bits {n k : Nat} (h : n < 2^k) (hk : k ≤ 8796093022000) : (dg n).length < 274877906944 := by
 have := Zs_of (z := (n : Int)) (k := k) (by simpa using h) hk
 unfold Zs at this; simpa using this
end Go.Proofs.YtokoadgahflafaaGreatDoor.Ref
end
section
set_option linter.unusedVariables false
namespace Go.Proofs.YtokoadgahflafaaGreatDoor.Sfz
open Go.RowKit Go.Proofs.YtokoadgahflafaaGreatDoorW.PrintWords Go.Proofs.YtokoadgahflafaaGreatDoorW.PrintMore Go.Proofs.YtokoadgahflafaaGreatDoor.Num Go.Proofs.YtokoadgahflafaaGreatDoor.PLib Go.Proofs.YtokoadgahflafaaGreatDoor.Ref Go.Proofs.YtokoadgahflafaaGreatDoor.GTh Go.Proofs.YtokoadgahflafaaGreatDoor.Given Go.Proofs.YtokoadgahflafaaGreatDoor.Rp1 Go.Proofs.YtokoadgahflafaaGreatDoor.Rp3 Go.Proofs.YtokoadgahflafaaGreatDoor.Rp5 Go.Proofs.YtokoadgahflafaaGreatDoor.Rp7 Go.Proofs.YtokoadgahflafaaGreatDoor.BinLaw Go.Proofs.YtokoadgahflafaaGreatDoor.Fm8 Go.Proofs.YtokoadgahflafaaGreatDoor.Rnd Go.Proofs.YtokoadgahflafaaGreatDoor.Px Go.Proofs.YtokoadgahflafaaGreatDoor.Sf1 Go.Proofs.YtokoadgahflafaaGreatDoor.Sf2 Go.Proofs.YtokoadgahflafaaGreatDoor.Sf6 Go.Proofs.YtokoadgahflafaaGreatDoor.SoftRootOfSquareL Go.Proofs.YtokoadgahflafaaGreatDoor.SoftOrdersL
theorem Zs_bl {z : Int} (h : bl z.natAbs ≤ 100000) : Zs z := Zs_of (k := bl z.natAbs) (bl_lt _) (by omega)
def uz (F : Fmt) (b : Nat) : Int := sv (decide (F.sg ≤ b)) (nF F (b % F.sg))
theorem uz_bl {f : Int} {F : Fmt} (h : Fm f F) (b : Nat) : bl (uz F b).natAbs ≤ 2101 := by
 unfold uz
 rw [sv_abs]
 exact bl_nF h (Nat.mod_lt _ (by have := h.sz; omega))
theorem uz_pat {f : Int} {F : Fmt} (h : Fm f F) (neg : Bool) {s : Nat} (hs : s < F.sg) : uz F (pat F neg s) = sv neg (nF F s) := by
 unfold uz
 rw [pat_ge F neg hs, pat_mod F neg hs]
theorem uz_size {f : Int} {F : Fmt} (h : Fm f F) {s : Nat} (hs : s < F.sg) : uz F s = ((nF F s : Nat) : Int) := uz_pat h false hs
theorem shl_hd' {f : Int} {F : Fmt} (h : Fm f F) : 0 ≤ wrap64 (((F.man : Nat) : Int) - 1) ∧ shl .u64 1 (wrap64 (((F.man : Nat) : Int) - 1)) = ((hdF F : Nat) : Int) := by
 rcases h with ⟨_, rfl⟩ | ⟨_, rfl⟩ <;> exact of_decide_eq_true (by kernel_rfl)
theorem parts_any {f : Int} {F : Fmt} (h : Fm f F) (G Q : Int) {s : Nat} (hs : s < F.sg) : gnomonref07_Parts.f ((F.sg : Nat) : Int) ((F.man : Nat) : Int) F.low G ((F.inf : Nat) : Int) Q (s : Int) = some (((mgF F s : Nat) : Int), xpF F s) := by
 obtain ⟨k1, k2⟩ := shl_hd' h
 obtain ⟨h0, -, h2, -, -, -, -, -, -⟩ := fm_hd h
 have hz := h.sz
 have hl := low_rng h
 have hm := Nat.mod_lt s h0
 have hq : s / hdF F ≤ s := Nat.div_le_self _ _
 have hq2 : s / hdF F ≤ 4096 := by
  have := dF_le h hs
  unfold dF at this; omega
 unfold gnomonref07_Parts.f
 rw [if_pos k1, k2, if_neg (by omega), show Int.tdiv (s : Int) ((hdF F : Nat) : Int) = ((s / hdF F : Nat) : Int) from (Int.ofNat_tdiv _ _).symm, show Int.tmod (s : Int) ((hdF F : Nat) : Int) = ((s % hdF F : Nat) : Int) from (Int.ofNat_tmod _ _).symm]
 unfold mgF xpF
 generalize s / hdF F = q1 at *
 generalize s % hdF F = r1 at *
 rw [wu64 (x := ((q1 : Nat) : Int)) (by omega) (by omega)]
 by_cases c : q1 = 0
 ·rw [if_pos (by omega), if_pos c, if_pos c]
 ·rw [if_neg (by omega), if_neg c, if_neg c, wu64 (by omega) (by omega), w64 (x := ((q1 : Nat) : Int)) (by omega) (by omega), w64 (x := F.low + _) (by omega) (by omega), w64 (by omega) (by omega)]
  congr 2
theorem cut_any {f : Int} {F : Fmt} (h : Fm f F) (P E G I Q : Int) (b : Nat) : gnomonref07_Cut.f ((F.sg : Nat) : Int) P E G I Q (b : Int) = some (decide (F.sg ≤ b), ((b % F.sg : Nat) : Int)) := by
 have hz := h.sz
 have e : Int.tmod (b : Int) ((F.sg : Nat) : Int) = ((b % F.sg : Nat) : Int) := (Int.ofNat_tmod _ _).symm
 have d : decide ((b : Int) ≥ ((F.sg : Nat) : Int)) = decide (F.sg ≤ b) := decide_eq_decide.2 ⟨fun q => by omega, fun q => by omega⟩
 unfold gnomonref07_Cut.f
 first
 | (rw [if_neg (by omega), e, d])
 | (rw [e, d])
theorem whole_any {f : Int} {F : Fmt} (h : Fm f F) (G Q : Int) {b : Nat} (hb : b < 2 * F.sg) : Ev (fun k => gnomonref07_Whole.f k ((F.sg : Nat) : Int) ((F.man : Nat) : Int) F.low G ((F.inf : Nat) : Int) Q (b : Int)) (zn (uz F b), zl (uz F b)) := by
 have hz := h.sz
 have hs : b % F.sg < F.sg := Nat.mod_lt _ (by omega)
 have hm := mg_lt h (b % F.sg)
 have hd := dF_le h hs
 have hl := low_rng h
 have hx := xp_d F (b % F.sg)
 have sh : wrap64 (xpF F (b % F.sg) - F.low) = ((dF F (b % F.sg) : Nat) : Int) := by rw [hx, w64 (by omega) (by omega)]; omega
 have l1 : (dg (mgF F (b % F.sg))).length < 274877906944 := dg_len_bits (k := 64) (by omega) (by decide)
 have l2 : bl (nF F (b % F.sg)) ≤ 2101 := bl_nF h hs
 have l3 : (dg (nF F (b % F.sg))).length < 1099511627776 := by
  have := dg_len_bits (n := nF F (b % F.sg)) (k := bl (nF F (b % F.sg))) (bl_lt _) (by omega)
  omega
 unfold gnomonref07_Whole.f
 refine Ev.bind (ev_eq (cut_any h _ _ _ _ _ b)) (Ev.bind (ev_eq (parts_any h G Q hs)) ?_)
 have w := word_ev ((mgF F (b % F.sg) : Nat) : Int) (by omega) (by omega)
 rw [Int.toNat_natCast] at w
 refine Ev.bind w ?_
 dsimp only
 rw [sh]
 refine Ev.bind (shl_ev _ _ l1 (by omega)) (pair_some ?_)
 refine zmk_ev _ (nF F (b % F.sg)) l3 (uz F b) (by unfold uz; rw [sv_abs]) (fun n0 => ?_)
 unfold uz
 generalize nF F (b % F.sg) = n at *
 by_cases c : F.sg ≤ b
 ·rw [decide_eq_true c, decide_eq_true]; show -(n : Int) < 0; omega
 ·rw [decide_eq_false c, decide_eq_false]; show ¬ (n : Int) < 0; omega
theorem units_any {f : Int} {F : Fmt} (h : Fm f F) (G Q : Int) {b : Nat} (hb : b < 2 * F.sg) : Ev (fun k => gnomonlaw09_units.f k ((F.sg : Nat) : Int) ((F.man : Nat) : Int) F.low G ((F.inf : Nat) : Int) Q (b : Int)) (zn (uz F b), zl (uz F b)) := by
 unfold gnomonlaw09_units.f
 exact pair_some (whole_any h G Q hb)
theorem abs_any {z : Int} (h : Zs z) : Ev (fun k => gnomonref04_Abs.f k (zn z) (zl z)) (zn ((z.natAbs : Nat) : Int), zl ((z.natAbs : Nat) : Int)) := by
 unfold gnomonref04_Abs.f
 refine pair_some ?_
 exact zmk_ev false z.natAbs (by unfold Zs at h; omega) _ (by omega) (fun _ => by rw [decide_eq_false]; omega)
theorem bl_dbl {m k : Nat} (h : bl m ≤ k) : bl (2 * m) ≤ 2 + k := bl_mul2 (show bl 2 ≤ 2 by decide) h
end Go.Proofs.YtokoadgahflafaaGreatDoor.Sfz
end
section
set_option linter.unusedVariables false
namespace Go.Proofs.YtokoadgahflafaaGreatDoor.Rep
open Go.Proofs.YtokoadgahflafaaGreatDoor.BinLaw Go.Proofs.YtokoadgahflafaaGreatDoor.Ref Go.Proofs.YtokoadgahflafaaGreatDoor.Fm8 Go.Proofs.YtokoadgahflafaaGreatDoor.Rnd
theorem rep_of {f : Int} {F : Fmt} (h : Fm f F) : ∀ (e q : Nat), q < 2 * hdF F → ∃ u, nF F u = q * 2^e := by
 intro e
 induction e with
 | zero =>
  intro q hq
  have := (nF_at h (j := 0) hq (.inl rfl)).1
  exact ⟨_, this⟩
 | succ e ih =>
  intro q hq
  by_cases c : hdF F ≤ q
  ·exact ⟨_, (nF_at h (j := e + 1) hq (.inr c)).1⟩
  ·obtain ⟨u, hu⟩ := ih (2 * q) (by omega)
   refine ⟨u, ?_⟩
   rw [hu, Nat.pow_succ]
   rw [Nat.mul_comm 2 q, Nat.mul_assoc, Nat.mul_comm 2]
theorem mg_lt1 {f : Int} {F : Fmt} (h : Fm f F) (s : Nat) : mgF F s < 2 * hdF F := by
 have h0 := (fm_hd h).1
 have := Nat.mod_lt s h0
 unfold mgF
 split <;> omega
theorem dF_mono {F : Fmt} {s t : Nat} (h : s ≤ t) : dF F s ≤ dF F t := by
 unfold dF
 have := Nat.div_le_div_right (c := hdF F) h
 omega
theorem rep_le {f : Int} {F : Fmt} (h : Fm f F) {t z : Nat} (hz : z ≤ nF F t) (hd : 2^(dF F t) ∣ z) : ∃ u, u ≤ t ∧ nF F u = z := by
 obtain ⟨q, rfl⟩ := hd
 have hq : q ≤ mgF F t := by
  unfold nF at hz
  rw [Nat.mul_comm] at hz
  exact Nat.le_of_mul_le_mul_right hz (Nat.two_pow_pos _)
 have hm := mg_lt1 h t
 obtain ⟨u, hu⟩ := rep_of h (dF F t) q (by omega)
 rw [Nat.mul_comm] at hu
 refine ⟨u, ?_, hu⟩
 refine Nat.le_of_not_lt fun c => ?_
 have := nF_lt h c
 omega
theorem dvd_nF {F : Fmt} {s t : Nat} (h : s ≤ t) : 2^(dF F s) ∣ nF F t := by
 unfold nF
 exact Nat.dvd_trans (Nat.pow_dvd_pow 2 (dF_mono h)) (Nat.dvd_mul_left _ _)
theorem sterbenz {f : Int} {F : Fmt} (h : Fm f F) {s t : Nat} (h1 : nF F s ≤ 2 * nF F t) (hst : t ≤ s) : ∃ u, u ≤ t ∧ nF F u = nF F s - nF F t := by
 have := nF_le h hst
 exact rep_le h (by omega) (Nat.dvd_sub (dvd_nF hst) (dvd_nF (Nat.le_refl t)))
end Go.Proofs.YtokoadgahflafaaGreatDoor.Rep
end
