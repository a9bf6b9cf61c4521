/- What the reference's quotients by a digit, shifts to the right, and words of digits answer, told by numbers. Plain Lean over the printed functions. Conditions: lists of less than 2^38 digits, shifts below 2^40. What the reference's signed numbers, its numbers of patterns, and its rounding answer, told by whole numbers. Plain Lean over the printed functions. Conditions: numbers of less than 2^38 digits. -/
import Derived.Test.YtapikmfckpgjoaaGreatDoorKDdFormsRefB
import Derived.Test.YtapikmfckpgjoaaGreatDoorKDdFormsPRefx1
import Derived.Test.YtapikmfckpgjoaaGreatDoorKDdFormsPRefx2
import Derived.Test.YtapikmfckpgjoaaGreatDoorKDdFormsFl
import Derived.Test.YtapikmfckpgjoaaGreatDoorKDdFormsPxZ0
section
namespace Go.Proofs.YtapikmfckpgjoaaGreatDoor.Ref
open Go.RowKit Go.Proofs.YtapikmfckpgjoaaGreatDoorW.PrintWords Go.Proofs.YtapikmfckpgjoaaGreatDoorW.PrintMore Go.Proofs.YtapikmfckpgjoaaGreatDoor.Num Go.Proofs.YtapikmfckpgjoaaGreatDoor.PLib Go.Proofs.YtapikmfckpgjoaaGreatDoor.PRef
theorem dv_succ {l : List Int} {i : Nat} (h : i < l.length) : vl (l.drop i) = (rd l (i : Int)).toNat + B * vl (l.drop (i + 1)) := by
 rw [List.drop_eq_getElem_cons h, vl, rd_get h]
theorem rd_set_self {l : List Int} {i : Nat} (v : Int) (h : i < l.length) : rd (l.set i v) (i : Int) = v := by
 rw [rd_get (by rw [List.length_set]; exact h), List.getElem_set_self]
theorem drop_set_succ (l : List Int) (i : Nat) (v : Int) : (l.set i v).drop (i + 1) = l.drop (i + 1) := by
 rw [List.drop_set_of_lt (by omega)]
theorem dg_set {l : List Int} (h : Dg l) (i : Nat) {v : Int} (h0 : 0 ≤ v) (h1 : v < 4294967296) : Dg (l.set i v) := by
 intro x hx
 rcases List.mem_or_eq_of_mem_set hx with hx | rfl
 ·exact h x hx
 ·exact ⟨h0, h1⟩
theorem div_num {left r w : Nat} (hl : left < w) (hw : w < 4294967296) (hr : r < 4294967296) : (left * 4294967296 + r) / w < 4294967296 ∧ left * 4294967296 + r < 18446744073709551616 := by
 constructor
 ·rw [Nat.div_lt_iff_lt_mul (by omega)]
  have : (left + 1) * 4294967296 ≤ w * 4294967296 := Nat.mul_le_mul_right _ (by omega)
  rw [Nat.mul_comm 4294967296 w]
  omega
 ·omega
theorem div_go (k : Nat) (a q : List Int) (w left : Nat) (n : Nat) (w0 : 0 < w) (w1 : w < 4294967296) (hl : left < w) (r : Nat) (hr : rd a (n : Int) = (r : Int)) (hr1 : r < 4294967296) (hn : n < a.length) (hq : q.length = a.length) (hla : a.length < 1099511627776) :
  gnomonref01_DivSmall.l0 (k + 1) a (w : Int) q (left : Int) (((n + 1 : Nat) : Int) - 1) =
   gnomonref01_DivSmall.l0 k a (w : Int) (q.set n (((left * 4294967296 + r) / w : Nat) : Int)) (((left * 4294967296 + r) % w : Nat) : Int) ((n : Int) - 1) := by
 obtain ⟨b1, b2⟩ := div_num hl w1 hr1
 have e0 : ((n + 1 : Nat) : Int) - 1 = (n : Int) := by omega
 have e1 : wrap64 ((n : Int) - 1) = (n : Int) - 1 := w64 (by omega) (by omega)
 have e2 : IntKind.u64.wrap (w : Int) = (w : Int) := wu64 (by omega) (by omega)
 have e3 : IntKind.u64.wrap ((IntKind.u64.wrap ((left : Int) * 4294967296)) + (IntKind.u64.wrap (r : Int))) = ((left * 4294967296 + r : Nat) : Int) := by
  rw [wu64 (x := (left : Int) * 4294967296) (by omega) (by omega), wu64 (x := (r : Int)) (by omega) (by omega), wu64 (by omega) (by omega)]; omega
 have e4 : Int.tdiv ((left * 4294967296 + r : Nat) : Int) (w : Int) = (((left * 4294967296 + r) / w : Nat) : Int) := by
  rw [Int.tdiv_eq_ediv_of_nonneg (by omega)]; rfl
 have e5 : Int.tmod ((left * 4294967296 + r : Nat) : Int) (w : Int) = (((left * 4294967296 + r) % w : Nat) : Int) := by
  rw [Int.tmod_eq_emod_of_nonneg (by omega)]; rfl
 generalize (left * 4294967296 + r) / w = Q at *
 generalize (left * 4294967296 + r) % w = R at *
 rw [e0]
 simp only [gnomonref01_DivSmall.l0]
 rw [if_pos (by omega), if_pos (by omega), if_pos (by omega), e2, if_neg (by omega), if_pos (by omega), hr, e3, e4, e5, e1, wu64 (by omega) (by omega), Int.emod_eq_of_lt (by omega) (by omega), Int.toNat_natCast]
theorem div_val {va vq w left r : Nat} (hv : va = w * vq + left) : r + B * va = w * ((left * 4294967296 + r) / w + B * vq) + (left * 4294967296 + r) % w := by
 have h := Nat.div_add_mod (left * 4294967296 + r) w
 have e : B * va = w * (B * vq) + left * 4294967296 := by
  rw [hv, Nat.mul_add, Nat.mul_left_comm]
  have : B * left = left * 4294967296 := by rw [Nat.mul_comm]; rfl
  omega
 rw [Nat.mul_add]; omega
theorem div_l0 (a : List Int) (ha : Dg a) (hla : a.length < 1099511627776) (w : Nat) (w0 : 0 < w) (w1 : w < 4294967296) (n : Nat) :
  ∀ (q : List Int) (left : Nat), n ≤ a.length → q.length = a.length → Dg q → left < w → vl (a.drop n) = w * vl (q.drop n) + left →
   Ev (fun k => gnomonref01_DivSmall.l0 k a (w : Int) q (left : Int) ((n : Int) - 1)) (dg (vl a / w), ((vl a % w : Nat) : Int)) := by
 induction n with
 | zero =>
  intro q left hn hq hDq hl hv
  rw [List.drop_zero, List.drop_zero] at hv
  refine Ev.step (f := fun k => (gnomonref01_Norm.f k q).bind fun t => some (t, (left : Int) % 4294967296)) (fun k => by simp only [gnomonref01_DivSmall.l0]; rw [if_neg (by omega)]) ?_
  have e1 : vl a / w = vl q := by rw [hv, Nat.mul_add_div w0, Nat.div_eq_of_lt hl, Nat.add_zero]
  have e2 : vl a % w = left := by rw [hv, Nat.mul_add_mod]; exact Nat.mod_eq_of_lt hl
  rw [e1, e2, Int.emod_eq_of_lt (by omega) (by omega)]
  exact Ev.bind (norm_ev hDq (by omega)) (Ev.now _)
 | succ n ih =>
  intro q left hn hq hDq hl hv
  have ra := ha.rd (n : Int)
  obtain ⟨r, hr⟩ := Int.eq_ofNat_of_zero_le ra.1
  have hr1 : r < 4294967296 := by omega
  obtain ⟨b1, b2⟩ := div_num hl w1 hr1
  refine Ev.step (fun k => div_go k a q w left n w0 w1 hl r hr hr1 (by omega) hq hla) ?_
  refine ih _ _ (by omega) (by rw [List.length_set]; exact hq) (dg_set hDq n (Int.natCast_nonneg _) (by generalize (left * 4294967296 + r) / w = z at b1 ⊢; omega)) (Nat.mod_lt _ w0) ?_
  rw [dv_succ (by omega), dv_succ (l := q.set n _) (by rw [List.length_set]; omega), rd_set_self _ (by omega), drop_set_succ, hr, Int.toNat_natCast, Int.toNat_natCast]
  exact div_val hv
theorem divS_ev (m w : Nat) (hm : (dg m).length < 1099511627776) (w0 : 0 < w) (w1 : w < 4294967296) :
  Ev (fun k => gnomonref01_DivSmall.f k (dg m) (w : Int)) (dg (m / w), ((m % w : Nat) : Int)) := by
 unfold gnomonref01_DivSmall.f
 have c0 : ¬ (w : Int) = 0 := by omega
 have c1 : (0 : Int) ≤ ((dg m).length : Int) := by omega
 have c2 : (dg m).length ≤ 70368744177664 := by omega
 have c3 : wrap64 (((dg m).length : Int) - 1) = ((dg m).length : Int) - 1 := w64 (by omega) (by omega)
 simp only [if_neg c0, if_pos c1, Int.toNat_natCast, if_pos c2, c3]
 have := div_l0 (dg m) (dg_Dg m) hm w w0 w1 (dg m).length (List.replicate (dg m).length 0) 0 (Nat.le_refl _) (List.length_replicate ..) (Dg.zeros _) w0 (by
  rw [List.drop_eq_nil_of_le (Nat.le_refl _), List.drop_eq_nil_of_le (by rw [List.length_replicate]; exact Nat.le_refl _)]; simp [vl])
 rw [vl_dg] at this
 exact this
theorem drop_dg (k : Nat) : ∀ m : Nat, (dg m).drop k = dg (m / B^k) := by
 induction k with
 | zero => intro m; rw [List.drop_zero, Nat.pow_zero, Nat.div_one]
 | succ k ih =>
  intro m
  by_cases h : m = 0
  ·subst h; rw [dg_zero, List.drop_nil, Nat.zero_div, dg_zero]
  ·rw [dg_pos h, List.drop_succ_cons, ih, Nat.div_div_eq_div_mul, Nat.pow_succ, Nat.mul_comm]
theorem div_pow_split (m n : Nat) : m / B^(n / 32) / 2^(n % 32) = m / 2^n := by
 rw [Nat.div_div_eq_div_mul, pw_B, ← Nat.pow_add]
 have hn32 : 32 * (n / 32) + n % 32 = n := Nat.div_add_mod n 32
 rw [hn32]
theorem shr_ev (m n : Nat) (hm : (dg m).length < 274877906944) (hn : n < 1099511627776) : Ev (fun k => gnomonref01_Shr.f k (dg m) (n : Int)) (dg (m / 2^n)) := by
 unfold gnomonref01_Shr.f
 have hr : n % 32 < 32 := Nat.mod_lt _ (by decide)
 have hqq : wrap64 (Int.tdiv (n : Int) 32) = ((n / 32 : Nat) : Int) := by rw [tdiv32, w64 (by omega) (by omega)]
 have hs := shl_u32 _ hr
 have hp := two_pow_lt32 _ hr
 have hpos := Nat.two_pow_pos (n % 32)
 have hsplit := div_pow_split m n
 by_cases h0 : n = 0
 ·subst h0
  have c : ((0 : Nat) : Int) ≤ 0 := by omega
  simp only [if_pos c]
  rw [Nat.pow_zero, Nat.div_one]
  exact bind_some_ev (norm_dg m (by omega))
 ·have c : ¬ (n : Int) ≤ 0 := by omega
  simp only [if_neg c, hqq]
  by_cases hge : (dg m).length ≤ n / 32
  ·have c1 : ((n / 32 : Nat) : Int) ≥ ((dg m).length : Int) := by omega
   simp only [if_pos c1]
   have hz : m / B^(n / 32) = 0 := by
    apply Nat.div_eq_of_lt
    exact Nat.lt_of_lt_of_le (dg_len_lt m) (Nat.pow_le_pow_right B_pos hge)
   rw [hz, Nat.zero_div] at hsplit
   rw [← hsplit]
   exact bind_some_ev (word_ev 0 (by omega) (by omega))
  ·have c1 : ¬ ((n / 32 : Nat) : Int) ≥ ((dg m).length : Int) := by omega
   have c2 : (0 : Int) ≤ ((n / 32 : Nat) : Int) := by omega
   have c3 : ((n / 32 : Nat) : Int) ≤ ((dg m).length : Int) := by omega
   have c4 : (0 : Int) ≤ ((n % 32 : Nat) : Int) := by omega
   simp only [if_neg c1, if_pos c2, if_pos c3, tmod32, if_pos c4, hs, Int.toNat_natCast]
   have hd := drop_dg (n / 32) m
   have hlen : (dg (m / B^(n / 32))).length < 1099511627776 := by rw [← hd, List.length_drop]; omega
   have hdv := divS_ev (m / B^(n / 32)) (2^(n % 32)) hlen hpos (by
    generalize 2^(n % 32) = P at *
    omega)
   rw [hsplit] at hdv
   rw [hd]
   exact Ev.bind hdv (Ev.now _)
theorem B2 : B * B = 18446744073709551616 := by decide
end Go.Proofs.YtapikmfckpgjoaaGreatDoor.Ref
end
section
namespace Go.Proofs.YtapikmfckpgjoaaGreatDoor.Ref
open Go.RowKit Go.Proofs.YtapikmfckpgjoaaGreatDoorW.PrintWords Go.Proofs.YtapikmfckpgjoaaGreatDoorW.PrintMore Go.Proofs.YtapikmfckpgjoaaGreatDoor.Num Go.Proofs.YtapikmfckpgjoaaGreatDoor.PLib Go.Proofs.YtapikmfckpgjoaaGreatDoor.PRef Fl
def zn (z : Int) : Bool := decide (z < 0)
def zl (z : Int) : List Int := dg z.natAbs
def Zs (z : Int) : Prop := (dg z.natAbs).length < 274877906944
theorem Zs_of {z : Int} {k : Nat} (h : z.natAbs < 2^k) (hk : k ≤ 8796093022000) : Zs z := by
 unfold Zs
 have h2 : z.natAbs < B^(k / 32 + 1) := by
  rw [pw_B]
  exact Nat.lt_of_lt_of_le h (Nat.pow_le_pow_right (by decide) (by omega))
 have := dg_len_le h2
 omega
theorem zmk_ev (neg : Bool) (n : Nat) (hn : (dg n).length < 1099511627776) (z : Int) (hz : z.natAbs = n) (hs : n ≠ 0 → neg = decide (z < 0)) : Ev (fun k => gnomonref04_Mk.f k neg (dg n)) (zn z, zl z) := by
 have h := mk_ev neg n hn
 have e : (neg && decide (n ≠ 0), dg n) = (zn z, zl z) := by
  unfold zn zl
  rw [hz]
  by_cases h0 : n = 0
  ·have : z = 0 := by omega
   subst this
   simp [h0]
  ·rw [hs h0]; simp [h0]
 rw [← e]; exact h
theorem pair_some {α β : Type} {g : Nat → Option (α × β)} {r : α × β} (h : Ev g r) : Ev (fun k => (g k).bind fun t => some (t.1, t.2)) r := Ev.bind h (Ev.now _)
theorem zadd_ev (a b : Int) (ha : Zs a) (hb : Zs b) (hab : Zs (a + b)) : Ev (fun k => gnomonref04_Add.f k (zn a) (zl a) (zn b) (zl b)) (zn (a + b), zl (a + b)) := by
 unfold gnomonref04_Add.f
 unfold Zs at ha hb hab
 by_cases hs : zn a = zn b
 ·have c : (zn a == zn b) = true := by rw [hs]; simp
  first
  | simp only [if_pos c]
  | simp only [if_pos hs]
  unfold zn at hs
  have hs' := decide_eq_decide.1 hs
  have e : (a + b).natAbs = a.natAbs + b.natAbs := by omega
  rw [e] at hab
  refine Ev.bind (add_ev a.natAbs b.natAbs (by omega) (by omega)) (pair_some ?_)
  exact zmk_ev _ _ (by omega) (a + b) e (fun _ => by unfold zn; exact decide_eq_decide.2 (by omega))
 ·have c : ¬ (zn a == zn b) = true := by simpa using hs
  first
  | simp only [if_neg c]
  | simp only [if_neg hs]
  unfold zn at hs
  have hs' : ¬ ((a < 0) ↔ (b < 0)) := fun h => hs (decide_eq_decide.2 h)
  refine Ev.bind (cmp_ev a.natAbs b.natAbs (by omega) (by omega)) ?_
  by_cases hle : b.natAbs ≤ a.natAbs
  ·have c2 : cmp3 a.natAbs b.natAbs ≥ 0 := by unfold cmp3; rw [if_neg (by omega)]; split <;> omega
   simp only [if_pos c2]
   have e : (a + b).natAbs = a.natAbs - b.natAbs := by omega
   rw [e] at hab
   refine Ev.bind (sub_ev a.natAbs b.natAbs (by omega) (by omega)) (pair_some ?_)
   exact zmk_ev _ _ (by omega) (a + b) e (fun _ => by unfold zn; exact decide_eq_decide.2 (by omega))
  ·have c2 : ¬ cmp3 a.natAbs b.natAbs ≥ 0 := by unfold cmp3; rw [if_pos (by omega)]; omega
   simp only [if_neg c2]
   have e : (a + b).natAbs = b.natAbs - a.natAbs := by omega
   rw [e] at hab
   refine Ev.bind (sub_ev b.natAbs a.natAbs (by omega) (by omega)) (pair_some ?_)
   exact zmk_ev _ _ (by omega) (a + b) e (fun _ => by unfold zn; exact decide_eq_decide.2 (by omega))
theorem zflip_ev (a : Int) (ha : Zs a) : Ev (fun k => gnomonref04_Flip.f k (zn a) (zl a)) (zn (-a), zl (-a)) := by
 unfold gnomonref04_Flip.f
 unfold Zs at ha
 refine pair_some ?_
 exact zmk_ev _ _ (by omega) (-a) (Int.natAbs_neg a) (fun h => by
  unfold zn
  by_cases h0 : a < 0
  ·rw [decide_eq_true h0]; symm; simp; omega
  ·rw [decide_eq_false h0]; symm; simp; omega)
theorem Zs_neg {a : Int} (h : Zs a) : Zs (-a) := by unfold Zs at *; rw [Int.natAbs_neg]; exact h
theorem zsub_ev (a b : Int) (ha : Zs a) (hb : Zs b) (hab : Zs (a - b)) : Ev (fun k => gnomonref04_Sub.f k (zn a) (zl a) (zn b) (zl b)) (zn (a - b), zl (a - b)) := by
 unfold gnomonref04_Sub.f
 refine Ev.bind (zflip_ev b hb) (pair_some ?_)
 exact zadd_ev a (-b) ha (Zs_neg hb) hab
def sgn (z : Int) : Int := if z = 0 then 0 else if z < 0 then -1 else 1
theorem zsign (a : Int) : gnomonref04_Sign.f (zn a) (zl a) = some (sgn a) := by
 unfold gnomonref04_Sign.f sgn zn zl
 by_cases h : a = 0
 ·subst h
  have e : ((dg (0 : Int).natAbs).length : Int) = 0 := by rw [Int.natAbs_zero, dg_zero]; rfl
  rw [if_pos e, if_pos rfl]
 ·have e : ¬ ((dg a.natAbs).length : Int) = 0 := by
   have := dg_len_zero (n := a.natAbs); omega
  rw [if_neg e, if_neg h]
  by_cases h2 : a < 0
  ·rw [if_pos (decide_eq_true h2), if_pos h2]
  ·rw [if_neg (by simpa using h2), if_neg h2]
theorem zcmp_ev (a b : Int) (ha : Zs a) (hb : Zs b) (hab : Zs (a - b)) : Ev (fun k => gnomonref04_Cmp.f k (zn a) (zl a) (zn b) (zl b)) (sgn (a - b)) := by
 unfold gnomonref04_Cmp.f
 refine Ev.bind (zsub_ev a b ha hb hab) ?_
 simp only [zsign, Option.bind_some]
 exact Ev.now _
theorem dg_len_bits {n k : Nat} (h : n < 2^k) (hk : k ≤ 8796093022000) : (dg n).length < 274877906944 := by
 have := Zs_of (z := (n : Int)) (k := k) (by simpa using h) hk
 unfold Zs at this; simpa using this
end Go.Proofs.YtapikmfckpgjoaaGreatDoor.Ref
end
