/- Rounding of whole numbers to 53 binary digits (to nearest, ties to even), the exact sums and products of floats, and the model's binary64 words as whole numbers of units 2^-1074. Plain Lean; no program in sight. No condition. What the reference's signed numbers, its numbers of patterns, and its rounding answer, told by whole numbers. Plain Lean over the printed functions. Conditions: numbers of less than 2^38 digits. What the reference's products answer, told by whole numbers. Plain Lean over the printed functions. Conditions: numbers of less than 2^38 digits. -/
import Ieee.Arith
import Derived.Laws.FloatBits
import Derived.Test.YtelfmddcjlocpaaGreatDoorKRoundCellsRefC
import Derived.Test.YtelfmddcjlocpaaGreatDoorKRoundCellsPxQ0
import Derived.Test.YtelfmddcjlocpaaGreatDoorKRoundCellsPRefx3
section
namespace Fl
theorem pw (k : Nat) : 0 < (2:Nat)^k := Nat.two_pow_pos k
theorem ipw (k : Nat) : 0 < (2:Int)^k := Int.pow_pos (by decide)
end Fl
namespace Fl
def hx (g : Nat) (a : Int) : Nat := max (a.natAbs.log2 + 1 - 26) g
end Fl
namespace Fl
open Ieee
def sz (w : Nat) : Nat := w % 2^63
def INF : Nat := 2047 * 2^52
def fin (w : Nat) : Prop := sz w < INF
end Fl
namespace Fl
open Ieee
theorem pos_of_mul {a : Int} {k : Nat} : (a * 2^k < 0 ↔ a < 0) ∧ (a * 2^k = 0 ↔ a = 0) := by
 have hp := ipw k
 constructor
 ·constructor
  ·intro h
   by_cases hc : a < 0
   ·exact hc
   ·have := Int.mul_nonneg (show 0 ≤ a by omega) (Int.le_of_lt hp); omega
  ·intro h; exact Int.mul_neg_of_neg_of_pos h hp
 ·constructor
  ·intro h; rcases Int.mul_eq_zero.1 h with h | h <;> omega
  ·intro h; rw [h]; simp
end Fl
end
section
namespace Go.Proofs.YtelfmddcjlocpaaGreatDoor.Ref
open Go.RowKit Go.Proofs.YtelfmddcjlocpaaGreatDoorW.PrintWords Go.Proofs.YtelfmddcjlocpaaGreatDoorW.PrintMore Go.Proofs.YtelfmddcjlocpaaGreatDoor.Num Go.Proofs.YtelfmddcjlocpaaGreatDoor.PLib Go.Proofs.YtelfmddcjlocpaaGreatDoor.PRef Go.Proofs.YtelfmddcjlocpaaGreatDoor.PRfz Fl
def zn (z : Int) : Bool := decide (z < 0)
def zl (z : Int) : List Int := dg z.natAbs
def Zs (z : Int) : Prop := (dg z.natAbs).length < 274877906944
theorem Zs_of {z : Int} {k : Nat} (h : z.natAbs < 2^k) (hk : k ≤ 8796093022000) : Zs z := by
 unfold Zs
 have h2 : z.natAbs < B^(k / 32 + 1) := by
  rw [pw_B]
  exact Nat.lt_of_lt_of_le h (Nat.pow_le_pow_right (by decide) (by omega))
 have := dg_len_le h2
 omega
theorem zmk_ev (neg : Bool) (n : Nat) (hn : (dg n).length < 1099511627776) (z : Int) (hz : z.natAbs = n) (hs : n ≠ 0 → neg = decide (z < 0)) : Ev (fun k => gnomonref04_Mk.f k neg (dg n)) (zn z, zl z) := by
 have h := mk_ev neg n hn
 have e : (neg && decide (n ≠ 0), dg n) = (zn z, zl z) := by
  unfold zn zl
  rw [hz]
  by_cases h0 : n = 0
  ·have : z = 0 := by omega
   subst this
   simp [h0]
  ·rw [hs h0]; simp [h0]
 rw [← e]; exact h
theorem pair_some {α β : Type} {g : Nat → Option (α × β)} {r : α × β} (h : Ev g r) : Ev (fun k => (g k).bind fun t => some (t.1, t.2)) r := Ev.bind h (Ev.now _)
theorem zadd_ev (a b : Int) (ha : Zs a) (hb : Zs b) (hab : Zs (a + b)) : Ev (fun k => gnomonref04_Add.f k (zn a) (zl a) (zn b) (zl b)) (zn (a + b), zl (a + b)) := by
 unfold gnomonref04_Add.f
 unfold Zs at ha hb hab
 by_cases hs : zn a = zn b
 ·have c : (zn a == zn b) = true := by rw [hs]; simp
  first
  | simp only [if_pos c]
  | simp only [if_pos hs]
  unfold zn at hs
  have hs' := decide_eq_decide.1 hs
  have e : (a + b).natAbs = a.natAbs + b.natAbs := by omega
  rw [e] at hab
  refine Ev.bind (add_ev a.natAbs b.natAbs (by omega) (by omega)) (pair_some ?_)
  exact zmk_ev _ _ (by omega) (a + b) e (fun _ => by unfold zn; exact decide_eq_decide.2 (by omega))
 ·have c : ¬ (zn a == zn b) = true := by simpa using hs
  first
  | simp only [if_neg c]
  | simp only [if_neg hs]
  unfold zn at hs
  have hs' : ¬ ((a < 0) ↔ (b < 0)) := fun h => hs (decide_eq_decide.2 h)
  refine Ev.bind (cmp_ev a.natAbs b.natAbs (by omega) (by omega)) ?_
  by_cases hle : b.natAbs ≤ a.natAbs
  ·have c2 : cmp3 a.natAbs b.natAbs ≥ 0 := by unfold cmp3; rw [if_neg (by omega)]; split <;> omega
   simp only [if_pos c2]
   have e : (a + b).natAbs = a.natAbs - b.natAbs := by omega
   rw [e] at hab
   refine Ev.bind (sub_ev a.natAbs b.natAbs (by omega) (by omega)) (pair_some ?_)
   exact zmk_ev _ _ (by omega) (a + b) e (fun _ => by unfold zn; exact decide_eq_decide.2 (by omega))
  ·have c2 : ¬ cmp3 a.natAbs b.natAbs ≥ 0 := by unfold cmp3; rw [if_pos (by omega)]; omega
   simp only [if_neg c2]
   have e : (a + b).natAbs = b.natAbs - a.natAbs := by omega
   rw [e] at hab
   refine Ev.bind (sub_ev b.natAbs a.natAbs (by omega) (by omega)) (pair_some ?_)
   exact zmk_ev _ _ (by omega) (a + b) e (fun _ => by unfold zn; exact decide_eq_decide.2 (by omega))
theorem zflip_ev (a : Int) (ha : Zs a) : Ev (fun k => gnomonref04_Flip.f k (zn a) (zl a)) (zn (-a), zl (-a)) := by
 unfold gnomonref04_Flip.f
 unfold Zs at ha
 refine pair_some ?_
 exact zmk_ev _ _ (by omega) (-a) (Int.natAbs_neg a) (fun h => by
  unfold zn
  by_cases h0 : a < 0
  ·rw [decide_eq_true h0]; symm; simp; omega
  ·rw [decide_eq_false h0]; symm; simp; omega)
theorem Zs_neg {a : Int} (h : Zs a) : Zs (-a) := by unfold Zs at *; rw [Int.natAbs_neg]; exact h
theorem zsub_ev (a b : Int) (ha : Zs a) (hb : Zs b) (hab : Zs (a - b)) : Ev (fun k => gnomonref04_Sub.f k (zn a) (zl a) (zn b) (zl b)) (zn (a - b), zl (a - b)) := by
 unfold gnomonref04_Sub.f
 refine Ev.bind (zflip_ev b hb) (pair_some ?_)
 exact zadd_ev a (-b) ha (Zs_neg hb) hab
def sgn (z : Int) : Int := if z = 0 then 0 else if z < 0 then -1 else 1
theorem zsign (a : Int) : gnomonref04_Sign.f (zn a) (zl a) = some (sgn a) := by
 unfold gnomonref04_Sign.f sgn zn zl
 by_cases h : a = 0
 ·subst h
  have e : ((dg (0 : Int).natAbs).length : Int) = 0 := by rw [Int.natAbs_zero, dg_zero]; rfl
  rw [if_pos e, if_pos rfl]
 ·have e : ¬ ((dg a.natAbs).length : Int) = 0 := by
   have := dg_len_zero (n := a.natAbs); omega
  rw [if_neg e, if_neg h]
  by_cases h2 : a < 0
  ·rw [if_pos (decide_eq_true h2), if_pos h2]
  ·rw [if_neg (by simpa using h2), if_neg h2]
theorem zcmp_ev (a b : Int) (ha : Zs a) (hb : Zs b) (hab : Zs (a - b)) : Ev (fun k => gnomonref04_Cmp.f k (zn a) (zl a) (zn b) (zl b)) (sgn (a - b)) := by
 unfold gnomonref04_Cmp.f
 refine Ev.bind (zsub_ev a b ha hb hab) ?_
 simp only [zsign, Option.bind_some]
 exact Ev.now _
theorem natAbs_shl (a : Int) (n : Nat) : (a * 2^n).natAbs = a.natAbs * 2^n := by rw [Int.natAbs_mul, Int.natAbs_pow]; rfl
theorem shl_neg (a : Int) (n : Nat) : (a * 2^n < 0) ↔ (a < 0) := (pos_of_mul (a := a) (k := n)).1
theorem zshl_ev (a : Int) (n : Nat) (ha : Zs a) (hn : n < 1099511627776) (hr : Zs (a * 2^n)) : Ev (fun k => gnomonref04_Shl.f k (zn a) (zl a) (n : Int)) (zn (a * 2^n), zl (a * 2^n)) := by
 unfold gnomonref04_Shl.f
 unfold Zs at ha hr
 rw [natAbs_shl] at hr
 refine Ev.bind (shl_ev a.natAbs n ha hn) (pair_some ?_)
 exact zmk_ev _ _ (by omega) (a * 2^n) (natAbs_shl a n) (fun _ => by unfold zn; exact decide_eq_decide.2 (shl_neg a n).symm)
theorem zof_ev (i : Int) (h0 : 0 ≤ i) (h1 : i < 9223372036854775808) : Ev (fun k => gnomonref04_Of.f k i) (zn i, zl i) := by
 unfold gnomonref04_Of.f
 have c : ¬ i < 0 := by omega
 simp only [if_neg c, wu64 h0 (show i < 18446744073709551616 by omega)]
 have hl : (dg i.toNat).length ≤ 2 := dg_len_le (by rw [Nat.pow_two, B2]; omega)
 refine Ev.bind (word_ev i h0 (by omega)) (pair_some ?_)
 exact zmk_ev false _ (by omega) i (by omega) (fun _ => (decide_eq_false c).symm)
theorem dg_len_bits {n k : Nat} (h : n < 2^k) (hk : k ≤ 8796093022000) : (dg n).length < 274877906944 := by
 have := Zs_of (z := (n : Int)) (k := k) (by simpa using h) hk
 unfold Zs at this; simpa using this
end Go.Proofs.YtelfmddcjlocpaaGreatDoor.Ref
end
section
namespace Go.Proofs.YtelfmddcjlocpaaGreatDoor.Ref
open Go.RowKit Go.Proofs.YtelfmddcjlocpaaGreatDoorW.PrintWords Go.Proofs.YtelfmddcjlocpaaGreatDoorW.PrintMore Go.Proofs.YtelfmddcjlocpaaGreatDoor.Num Go.Proofs.YtelfmddcjlocpaaGreatDoor.PLib Go.Proofs.YtelfmddcjlocpaaGreatDoor.PRef Go.Proofs.YtelfmddcjlocpaaGreatDoor.PRfz Fl
theorem rd_set_other {l : List Int} {i j : Nat} (v : Int) (h : j ≠ i) : rd (l.set i v) (j : Int) = rd l (j : Int) := by
 by_cases hj : j < l.length
 ·rw [rd_get (by rw [List.length_set]; exact hj), rd_get hj, List.getElem_set_ne (by omega)]
 ·rw [rd_out (by rw [List.length_set]; omega), rd_out (by omega)]
theorem vl_set : ∀ (l : List Int) (i : Nat) (v : Int), i < l.length → vl (l.set i v) + B^i * (rd l (i : Int)).toNat = vl l + B^i * v.toNat := by
 intro l
 induction l with
 | nil => intro i v h; simp at h
 | cons d t ih =>
  intro i v h
  cases i with
  | zero =>
   rw [rd_get h]
   simp only [List.set_cons_zero, List.getElem_cons_zero, vl, Nat.pow_zero, Nat.one_mul]
   omega
  | succ i =>
   have hi : i < t.length := by simpa using h
   have e := ih i v hi
   rw [rd_get hi] at e
   rw [rd_get h]
   simp only [List.set_cons_succ, List.getElem_cons_succ, vl, Nat.pow_succ, Nat.mul_comm _ B, Nat.mul_assoc]
   have e2 := congrArg (B * ·) e
   simp only [Nat.mul_add] at e2
   omega
theorem mul_t {c r x y : Nat} (hc : c < 4294967296) (hr : r < 4294967296) (hx : x < 4294967296) (hy : y < 4294967296) : c + r + x * y < 18446744073709551616 ∧ x * y ≤ 18446744065119617025 := by
 have h : x * y ≤ 4294967295 * 4294967295 := Nat.mul_le_mul (by omega) (by omega)
 omega
theorem wadd (i j : Nat) (h : i + j < 1099511627776) : wrap64 ((i : Int) + (j : Int)) = ((i + j : Nat) : Int) := by rw [w64 (by omega) (by omega)]; omega
theorem acc_w (c r q : Nat) (h : c + r + q < 18446744073709551616) : IntKind.u64.wrap ((c : Int) + IntKind.u64.wrap (IntKind.u64.wrap (r : Int) + IntKind.u64.wrap ((q : Nat) : Int))) = ((c + r + q : Nat) : Int) := by
 rw [wu64 (x := (r : Int)) (by omega) (by omega), wu64 (x := (q : Int)) (by omega) (by omega), wu64 (x := (r : Int) + (q : Int)) (by omega) (by omega), wu64 (by omega) (by omega)]; omega
theorem acc_lo (s : Nat) (h : s < 18446744073709551616) : Go.bits .and .u64 (s : Int) 4294967295 % 4294967296 = ((s % B : Nat) : Int) := by
 rw [mask32 (by omega) (by omega), Int.emod_emod, B_eq]; rfl
theorem acc_hi (s : Nat) : (s : Int) / 4294967296 = ((s / B : Nat) : Int) := by rw [B_eq]; rfl
theorem wu_nat (y : Nat) (h : y < 4294967296) : IntKind.u64.wrap (y : Int) = (y : Int) := wu64 (by omega) (by omega)
theorem mul_go (k : Nat) (a b p : List Int) (i j c x r y : Nat) (hc : c < 4294967296) (hr : r < 4294967296) (hx : x < 4294967296) (hy : y < 4294967296)
  (hj : j < b.length) (hp : i + j < p.length) (hl : p.length < 1099511627776) (er : rd p ((i + j : Nat) : Int) = (r : Int)) (ey : rd b (j : Int) = (y : Int)) :
  gnomonref01_Mul.l1 (k + 1) a b p (i : Int) (c : Int) (x : Int) (j : Int) =
   gnomonref01_Mul.l1 k a b (p.set (i + j) (((c + r + x * y) % B : Nat) : Int)) (i : Int) (((c + r + x * y) / B : Nat) : Int) (x : Int) ((j + 1 : Nat) : Int) := by
 have h1 := (mul_t hc hr hx hy).1
 have e1 := wadd i j (Nat.lt_trans hp hl)
 have e2 : wrap64 ((j : Int) + 1) = ((j + 1 : Nat) : Int) := next_i j (by clear er ey h1 e1; omega)
 have exy : (x : Int) * (y : Int) = ((x * y : Nat) : Int) := (Int.natCast_mul x y).symm
 simp only [gnomonref01_Mul.l1]
 rw [if_pos (Int.ofNat_lt.2 hj), e1, if_pos (Int.natCast_nonneg _), if_pos (Int.ofNat_lt.2 hp), if_pos (Int.natCast_nonneg _), er, ey, wu_nat y hy, exy, e2]
 rw [acc_w c r (x * y) h1, acc_lo _ h1, acc_hi, Int.toNat_natCast]
theorem mul_step {vp vp' vq P c r x y s Pi pb : Nat} (h1 : vp' + P * r = vp + P * (s % B)) (h2 : vp + P * c = vq + Pi * x * pb) (hs : s = c + r + x * y) :
  vp' + P * B * (s / B) = vq + Pi * x * pb + P * (x * y) := by
 have h := Nat.mod_add_div s B
 have e : P * s = P * (s % B) + P * B * (s / B) := by
  rw [Nat.mul_assoc, ← Nat.mul_add, h]
 rw [hs, Nat.mul_add, Nat.mul_add] at e
 rw [← hs] at e
 omega
theorem cmod (c : Nat) (h : c < 4294967296) : (c : Int) % 4294967296 = (c : Int) := by omega
theorem carry_lt {s : Nat} (h : s < 18446744073709551616) : s / B < 4294967296 := by rw [B_eq]; omega
theorem mul_l1 (a b q : List Int) (hb : Dg b) (i x : Nat) (hx : x < 4294967296) (hq : q.length < 1099511627776) (hlen : i + b.length < q.length) (R : List Int)
  (hend : ∀ p' : List Int, p'.length = q.length → Dg p' → (∀ t : Nat, i + b.length < t → rd p' (t : Int) = rd q (t : Int)) → vl p' = vl q + B^i * x * vl b → Ev (fun k => gnomonref01_Mul.l0 k a b p' ((i + 1 : Nat) : Int)) R)
  (hz : rd q ((i + b.length : Nat) : Int) = 0) (d : Nat) :
  ∀ (j : Nat) (p : List Int) (c : Nat), b.length - j = d → j ≤ b.length → p.length = q.length → Dg p → c < 4294967296 → (∀ t : Nat, i + j ≤ t → rd p (t : Int) = rd q (t : Int)) →
   vl p + B^(i + j) * c = vl q + B^i * x * pv b j → Ev (fun k => gnomonref01_Mul.l1 k a b p (i : Int) (c : Int) (x : Int) (j : Int)) R := by
 induction d with
 | zero =>
  intro j p c hd hj hp hDp hc hsame hv
  have ej : j = b.length := by omega
  subst ej
  have e1 := wadd i b.length (by clear hv hz; omega)
  have e2 : wrap64 ((i : Int) + 1) = ((i + 1 : Nat) : Int) := next_i i (by clear hv hz; omega)
  refine Ev.step (f := fun k => gnomonref01_Mul.l0 k a b (p.set (i + b.length) (c : Int)) ((i + 1 : Nat) : Int)) (fun k => ?_) ?_
  ·simp only [gnomonref01_Mul.l1]
   rw [if_neg (Int.lt_irrefl _), e1, if_pos (Int.natCast_nonneg _), if_pos (Int.ofNat_lt.2 (by rw [hp]; exact hlen)), Int.toNat_natCast, cmod c hc, e2]
  ·refine hend _ (by rw [List.length_set]; exact hp) (dg_set hDp _ (Int.natCast_nonneg _) (Int.ofNat_lt.2 hc)) ?_ ?_
   ·intro t ht
    rw [rd_set_other _ (by clear hv hz; omega)]
    exact hsame t (by clear hv hz; omega)
   ·have hs := vl_set p (i + b.length) (c : Int) (by rw [hp]; exact hlen)
    rw [hsame _ (Nat.le_refl _), hz, Int.toNat_natCast] at hs
    rw [pv_all (Nat.le_refl _)] at hv
    have : B^(i + b.length) * (0 : Int).toNat = 0 := Nat.mul_zero _
    omega
 | succ d ih =>
  intro j p c hd hj hp hDp hc hsame hv
  have rp := hDp.rd ((i + j : Nat) : Int)
  have rb := hb.rd (j : Int)
  obtain ⟨r, er⟩ := Int.eq_ofNat_of_zero_le rp.1
  obtain ⟨y, ey⟩ := Int.eq_ofNat_of_zero_le rb.1
  have hr : r < 4294967296 := Int.ofNat_lt.1 (er ▸ rp.2)
  have hy : y < 4294967296 := Int.ofNat_lt.1 (ey ▸ rb.2)
  have h1 := (mul_t hc hr hx hy).1
  have hjl : j < b.length := by clear hv er ey h1; omega
  have hjp : i + j < p.length := by clear hv er ey h1; omega
  refine Ev.step (fun k => mul_go k a b p i j c x r y hc hr hx hy hjl hjp (by rw [hp]; exact hq) er ey) ?_
  have hlt : (((c + r + x * y) % B : Nat) : Int) < 4294967296 := Int.ofNat_lt.2 (Nat.mod_lt _ B_pos)
  refine ih (j + 1) _ _ (by clear hv er ey h1; omega) hjl (by rw [List.length_set]; exact hp) (dg_set hDp _ (Int.natCast_nonneg _) hlt) ?_ ?_ ?_
  ·exact carry_lt h1
  ·intro t ht
   rw [rd_set_other _ (by clear hv er ey h1; omega)]
   exact hsame t (by clear hv er ey h1; omega)
  ·have hs := vl_set p (i + j) (((c + r + x * y) % B : Nat) : Int) hjp
   rw [er, Int.toNat_natCast, Int.toNat_natCast] at hs
   have h := mul_step (s := c + r + x * y) (y := y) hs hv rfl
   rw [show i + (j + 1) = (i + j) + 1 by omega, Nat.pow_succ, h, pv_succ, ey, Int.toNat_natCast, Nat.mul_add, Nat.pow_add]
   simp only [Nat.mul_assoc, Nat.mul_left_comm x, Nat.add_assoc]
theorem mul_l0 (a b : List Int) (ha : Dg a) (hb : Dg b) (hl : a.length + b.length < 1099511627776) (d : Nat) :
  ∀ (i : Nat) (p : List Int), a.length - i = d → i ≤ a.length → p.length = a.length + b.length → Dg p → (∀ t : Nat, i + b.length ≤ t → rd p (t : Int) = 0) →
   vl p = pv a i * vl b → Ev (fun k => gnomonref01_Mul.l0 k a b p (i : Int)) (dg (vl a * vl b)) := by
 induction d with
 | zero =>
  intro i p hd hi hp hDp hz hv
  refine Ev.step (f := fun k => (gnomonref01_Norm.f k p).bind fun t => some t) (fun k => by simp only [gnomonref01_Mul.l0]; rw [if_neg (by omega)]) ?_
  refine bind_some_ev (norm_to hDp (by omega) ?_)
  rw [hv, pv_all (by omega)]
 | succ d ih =>
  intro i p hd hi hp hDp hz hv
  have ra := ha.rd (i : Int)
  obtain ⟨x, ex⟩ := Int.eq_ofNat_of_zero_le ra.1
  refine Ev.step (f := fun k => gnomonref01_Mul.l1 k a b p (i : Int) ((0 : Nat) : Int) (x : Int) ((0 : Nat) : Int)) (fun k => ?_) ?_
  ·simp only [gnomonref01_Mul.l0]
   rw [if_pos (by omega), if_pos (by omega), ex, wu64 (by omega) (by omega)]
   rfl
  ·refine mul_l1 a b p hb i x (by omega) (by omega) (by omega) _ ?_ (hz _ (Nat.le_refl _)) _ 0 p 0 rfl (by omega) rfl hDp (by decide) (fun t _ => rfl) (by rw [pv_zero, Nat.mul_zero, Nat.mul_zero])
   intro p' hp' hDp' hsame hv'
   refine ih (i + 1) p' (by omega) (by omega) (by omega) hDp' ?_ ?_
   ·intro t ht
    rw [hsame t (by omega)]
    exact hz t (by omega)
   ·rw [hv', hv, pv_succ, ex, Int.toNat_natCast, Nat.add_mul]
theorem mul_ev (m n : Nat) (hm : (dg m).length < 274877906944) (hn : (dg n).length < 274877906944) : Ev (fun k => gnomonref01_Mul.f k (dg m) (dg n)) (dg (m * n)) := by
 unfold gnomonref01_Mul.f
 have e1 : wrap64 (((dg m).length : Int) + ((dg n).length : Int)) = (((dg m).length + (dg n).length : Nat) : Int) := by rw [w64 (by omega) (by omega)]; omega
 have e2 : (0 : Int) ≤ (((dg m).length + (dg n).length : Nat) : Int) := by omega
 have e3 : (dg m).length + (dg n).length ≤ 70368744177664 := by omega
 simp only [e1, if_pos e2, Int.toNat_natCast, if_pos e3]
 have := mul_l0 (dg m) (dg n) (dg_Dg m) (dg_Dg n) (by omega) _ 0 (List.replicate ((dg m).length + (dg n).length) 0) rfl (by omega) (List.length_replicate ..) (Dg.zeros _)
  (fun t _ => by
   by_cases ht : t < (List.replicate ((dg m).length + (dg n).length) (0 : Int)).length
   ·rw [rd_get ht]; simp
   ·exact rd_out (by omega)) (by rw [vl_zeros, pv_zero, Nat.zero_mul])
 rw [vl_dg, vl_dg] at this
 exact this
end Go.Proofs.YtelfmddcjlocpaaGreatDoor.Ref
end
