/- What the reference's products by a digit, shifts, counts of bits, quotients by a digit and words answer, told by numbers. Plain Lean over the printed functions. Conditions: lists of less than 2^38 digits, shifts below 2^40. What the reference's quotients by a digit, shifts to the right, and words of digits answer, told by numbers. Plain Lean over the printed functions. Conditions: lists of less than 2^38 digits, shifts below 2^40. Rounding of whole numbers to 53 binary digits (to nearest, ties to even), the exact sums and products of floats, and the model's binary64 words as whole numbers of units 2^-1074. Plain Lean; no program in sight. No condition. What the reference's signed numbers, its numbers of patterns, and its rounding answer, told by whole numbers. Plain Lean over the printed functions. Conditions: numbers of less than 2^38 digits. What the reference's products answer, told by whole numbers. Plain Lean over the printed functions. Conditions: numbers of less than 2^38 digits. -/
import Derived.Test.YtelfmddcjlocpaaGreatDoorKRoundQuotedRefA
import Derived.Test.YtelfmddcjlocpaaGreatDoorKRoundQuotedPRefx1
import Derived.Test.YtelfmddcjlocpaaGreatDoorKRoundQuotedPRefx2
import Derived.Test.YtelfmddcjlocpaaGreatDoorKRoundQuotedPxRfz
import Ieee.Arith
import Derived.Laws.FloatBits
import Derived.Test.YtelfmddcjlocpaaGreatDoorKRoundQuotedPxQ0
import Derived.Test.YtelfmddcjlocpaaGreatDoorKRoundQuotedPRefx3
section
namespace Go.Proofs.YtelfmddcjlocpaaGreatDoor.Ref
open Go.RowKit Go.Proofs.YtelfmddcjlocpaaGreatDoorW.PrintWords Go.Proofs.YtelfmddcjlocpaaGreatDoorW.PrintMore Go.Proofs.YtelfmddcjlocpaaGreatDoor.Num Go.Proofs.YtelfmddcjlocpaaGreatDoor.PLib Go.Proofs.YtelfmddcjlocpaaGreatDoor.PRef Go.Proofs.YtelfmddcjlocpaaGreatDoor.PRfz
theorem prod_bound {x w : Int} (h0 : 0 ≤ x) (h1 : x < 4294967296) (h2 : 0 ≤ w) (h3 : w < 4294967296) : 0 ≤ x * w ∧ x * w ≤ 18446744065119617025 := by
 refine ⟨Int.mul_nonneg h0 h2, ?_⟩
 have := Int.mul_le_mul (show x ≤ 4294967295 by omega) (show w ≤ 4294967295 by omega) h2 (by omega)
 omega
theorem mulS_go (k : Nat) (a s : List Int) (w c : Int) (i : Nat) (w0 : 0 ≤ w) (w1 : w < 4294967296) (h0 : 0 ≤ c) (h1 : c < 4294967296) (r0 : 0 ≤ rd a (i : Int)) (r1 : rd a (i : Int) < 4294967296) (hi : i < a.length) (hla : a.length < 1099511627775) (hs : s.length = i) :
  gnomonref01_MulSmall.l0 (k + 1) a w s c (i : Int) = gnomonref01_MulSmall.l0 k a w (s ++ [(c + rd a (i : Int) * w) % 4294967296]) ((c + rd a (i : Int) * w) / 4294967296) ((i + 1 : Nat) : Int) := by
 have e3 := next_i i (by omega)
 obtain ⟨p0, p1⟩ := prod_bound r0 r1 w0 w1
 simp only [gnomonref01_MulSmall.l0]
 rw [if_pos (by omega), if_pos (by omega), if_pos (by omega), wu64 r0 (by omega), wu64 w0 (by omega)]
 generalize rd a (i : Int) * w = p at *
 rw [wu64 p0 (by omega), wu64 (by omega) (by omega), mask32 (by omega) (by omega), e3, Int.emod_emod]
theorem mulS_val {vs P c r w pa c0 : Nat} (hv : vs + P * c = pa * w + c0) : vs + P * ((c + r * w) % B) + P * B * ((c + r * w) / B) = (pa + P * r) * w + c0 := by
 have h := digit_split (c + r * w) P vs (vs + P * (c + r * w)) rfl
 rw [h, Nat.mul_add, Nat.add_mul, Nat.mul_assoc]; omega
theorem mulS_toNat {c r w : Int} (h0 : 0 ≤ c) (h1 : 0 ≤ r) (h2 : 0 ≤ w) :
  ((c + r * w) % 4294967296).toNat = (c.toNat + r.toNat * w.toNat) % B ∧ ((c + r * w) / 4294967296).toNat = (c.toNat + r.toNat * w.toNat) / B := by
 have hbase := B_eq
 obtain ⟨r', rfl⟩ := Int.eq_ofNat_of_zero_le h1
 obtain ⟨w', rfl⟩ := Int.eq_ofNat_of_zero_le h2
 rw [hbase, Int.toNat_natCast, Int.toNat_natCast, ← Int.natCast_mul]
 generalize r' * w' = p
 omega
theorem mulS_l0 (a : List Int) (ha : Dg a) (hla : a.length < 1099511627775) (w c0 : Int) (w0 : 0 ≤ w) (w1 : w < 4294967296) (d : Nat) :
  ∀ (i : Nat) (s : List Int) (c : Int), a.length - i = d → i ≤ a.length → s.length = i → Dg s → 0 ≤ c → c < 4294967296 →
   vl s + B^i * c.toNat = pv a i * w.toNat + c0.toNat → Ev (fun k => gnomonref01_MulSmall.l0 k a w s c (i : Int)) (dg (vl a * w.toNat + c0.toNat)) := by
 induction d with
 | zero =>
  intro i s c hd hi hs hDs h0 h1 hv
  refine Ev.step (f := fun k => (gnomonref01_Norm.f k (s ++ [c])).bind fun t => some t) (fun k => ?_) ?_
  ·simp only [gnomonref01_MulSmall.l0]
   rw [if_neg (by omega), if_pos (by omega), Int.emod_eq_of_lt h0 h1]
  ·refine bind_some_ev (norm_to (hDs.snoc h0 h1) (by rw [List.length_append, hs]; simp; omega) ?_)
   rw [vl_snoc, hs, hv, pv_all (by omega)]
 | succ d ih =>
  intro i s c hd hi hs hDs h0 h1 hv
  have ra := ha.rd (i : Int)
  have hil : i < a.length := by omega
  obtain ⟨p0, p1⟩ := prod_bound ra.1 ra.2 w0 w1
  have ht := mulS_toNat h0 ra.1 w0
  refine Ev.step (fun k => mulS_go k a s w c i w0 w1 h0 h1 ra.1 ra.2 hil hla hs) ?_
  refine ih (i + 1) _ _ (by omega) (by omega) (by rw [List.length_append, hs]; rfl) (hDs.snoc (Int.emod_nonneg _ (by decide)) (Int.emod_lt_of_pos _ (by decide))) (Int.ediv_nonneg (by omega) (by decide)) (by omega) ?_
  rw [vl_snoc, hs, pv_succ, Nat.pow_succ, ht.1, ht.2]
  exact mulS_val hv
theorem mulS_ev (m : Nat) (w c : Int) (hm : (dg m).length < 1099511627775) (w0 : 0 ≤ w) (w1 : w < 4294967296) (c0 : 0 ≤ c) (c1 : c < 4294967296) :
  Ev (fun k => gnomonref01_MulSmall.f k (dg m) w c) (dg (m * w.toNat + c.toNat)) := by
 unfold gnomonref01_MulSmall.f
 rw [w64 (by omega) (by omega)]
 have e1 : (0 : Int) ≤ ((dg m).length : Int) + 1 := by omega
 have e2 : (((dg m).length : Int) + 1).toNat ≤ 70368744177664 := by omega
 simp only [if_pos e1, if_pos e2, wu64 c0 (show c < 18446744073709551616 by omega)]
 have := mulS_l0 (dg m) (dg_Dg m) hm w c w0 w1 _ 0 [] c rfl (by omega) rfl Dg.nil c0 c1 (by simp [vl, pv_zero])
 rw [vl_dg] at this
 exact this
theorem shl_u32 (r : Nat) (h : r < 32) : shl .u32 1 (r : Int) = ((2^r : Nat) : Int) := by
 unfold shl
 have e : min ((r : Int)).toNat IntKind.u32.bits = r := by
  have : IntKind.u32.bits = 32 := rfl
  rw [this]; omega
 rw [e, Int.one_mul, IntKind.wrap_u32]
 have h1 : 2^r < 2^32 := Nat.pow_lt_pow_right (by decide) h
 have h2 : ((2:Int)^r) = ((2^r : Nat) : Int) := by push_cast; rfl
 rw [h2]
 generalize 2^r = P at *
 omega
theorem two_pow_lt32 (r : Nat) (h : r < 32) : (0 : Int) ≤ ((2^r : Nat) : Int) ∧ ((2^r : Nat) : Int) < 4294967296 := by
 have h1 : 2^r < 2^32 := Nat.pow_lt_pow_right (by decide) h
 generalize 2^r = P at *
 omega
theorem tdiv32 (n : Nat) : Int.tdiv (n : Int) 32 = ((n / 32 : Nat) : Int) := by rw [Int.tdiv_eq_ediv_of_nonneg (by omega)]; rfl
theorem tmod32 (n : Nat) : Int.tmod (n : Int) 32 = ((n % 32 : Nat) : Int) := by rw [Int.tmod_eq_emod_of_nonneg (by omega)]; rfl
theorem shl_zero (m : Nat) (x : Int) (hm : (dg m).length < 274877906944) : Ev (fun k => gnomonref01_Shl.j0 k (dg m) x true) (dg m) := by
 refine Ev.step (f := fun k => (gnomonref01_Norm.f k (dg m)).bind fun t => some t) (fun k => by simp only [gnomonref01_Shl.j0]; rw [if_pos (by decide)]) ?_
 exact bind_some_ev (norm_dg m (by omega))
theorem shl_len (m r : Nat) (hr : r < 32) : (dg (m * 2^r)).length ≤ (dg m).length + 1 := by
 apply dg_len_le
 have h1 := dg_len_lt m
 have h2 := (two_pow_lt32 _ hr).2
 have h3 : 2^r < B := by
  have hbase := B_eq
  generalize 2^r = P at *
  omega
 rw [Nat.pow_succ]
 exact Nat.mul_lt_mul'' h1 h3
theorem shl_val (m n : Nat) : vl (List.replicate (n / 32) 0 ++ dg (m * 2^(n % 32))) = m * 2^n := by
 rw [vl_append, vl_zeros, vl_dg, List.length_replicate, pw_B, Nat.zero_add, Nat.mul_comm, Nat.mul_assoc, ← Nat.pow_add]
 have hn32 : n % 32 + 32 * (n / 32) = n := Nat.mod_add_div n 32
 rw [hn32]
theorem shl_step (k m n : Nat) (hm : (dg m).length < 274877906944) (hn : n < 1099511627776) :
  gnomonref01_Shl.j0 (k + 1) (dg m) (n : Int) false = (gnomonref01_MulSmall.f k (dg m) ((2^(n % 32) : Nat) : Int) 0).bind fun t => if (List.replicate (n / 32) (0 : Int)).length + t.length < 35184372088832 then (gnomonref01_Norm.f k (List.replicate (n / 32) 0 ++ t)).bind fun u => some u else none := by
 have hr : n % 32 < 32 := Nat.mod_lt _ (by decide)
 have hqq : wrap64 (Int.tdiv (n : Int) 32) = ((n / 32 : Nat) : Int) := by rw [tdiv32, w64 (by omega) (by omega)]
 have hs := shl_u32 _ hr
 generalize hq : n / 32 = q at *
 have hq2 : q ≤ 34359738368 := by omega
 generalize hL : (dg m).length = L at *
 simp only [gnomonref01_Shl.j0]
 rw [if_neg (by decide), hqq, if_pos (by omega), hL, w64 (x := (q : Int) + (L : Int)) (by omega) (by omega), w64 (by omega) (by omega), if_pos (by omega), if_pos (by omega), tmod32, hs, Option.bind_some, if_pos (by omega), Int.toNat_natCast]
theorem shl_ev (m n : Nat) (hm : (dg m).length < 274877906944) (hn : n < 1099511627776) : Ev (fun k => gnomonref01_Shl.f k (dg m) (n : Int)) (dg (m * 2^n)) := by
 unfold gnomonref01_Shl.f
 by_cases h0 : n = 0
 ·subst h0
  have c : ((0 : Nat) : Int) ≤ 0 := by omega
  simp only [if_pos c]
  rw [Nat.pow_zero, Nat.mul_one]
  exact shl_zero m _ hm
 ·have c : ¬ (n : Int) ≤ 0 := by omega
  simp only [if_neg c]
  by_cases hz : m = 0
  ·subst hz
   have e : (((dg 0).length : Int) == 0) = true := by rw [dg_zero]; rfl
   simp only [e]
   rw [Nat.zero_mul]
   exact shl_zero 0 _ hm
  ·have hl0 : (dg m).length ≠ 0 := fun e => hz (dg_len_zero.1 e)
   have e : (((dg m).length : Int) == 0) = false := beq_eq_false_iff_ne.2 (by omega)
   simp only [e]
   have hr : n % 32 < 32 := Nat.mod_lt _ (by decide)
   have hmul := mulS_ev m ((2^(n % 32) : Nat) : Int) 0 (by omega) (two_pow_lt32 _ hr).1 (two_pow_lt32 _ hr).2 (by omega) (by omega)
   have hlen := shl_len m _ hr
   have hval := shl_val m n
   rw [Int.toNat_natCast, Int.toNat_zero, Nat.add_zero] at hmul
   refine Ev.step (fun k => shl_step k m n hm hn) (Ev.bind hmul ?_)
   have hc : (List.replicate (n / 32) (0 : Int)).length + (dg (m * 2^(n % 32))).length < 35184372088832 := by
    rw [List.length_replicate]
    generalize (dg (m * 2^(n % 32))).length = y at *
    omega
   simp only [if_pos hc]
   refine bind_some_ev (norm_to ((Dg.zeros _).append (dg_Dg _)) ?_ hval)
   rw [List.length_append, List.length_replicate]
   generalize (dg (m * 2^(n % 32))).length = y at *
   omega
theorem next_x (x : Nat) (hx : x < 1099511627776000) : wrap64 ((x : Int) + 1) = ((x + 1 : Nat) : Int) := by rw [w64 (by omega) (by omega)]; omega
theorem bits_l0 (w : Nat) : ∀ (x : Nat), w < 4294967296 → x + bl w < 1099511627776000 → Ev (fun k => gnomonref01_Bits.l0 k (x : Int) (w : Int)) ((x + bl w : Nat) : Int) := by
 induction w using Nat.strongRecOn with
 | _ w ih =>
  intro x hw hx
  by_cases h : w = 0
  ·subst h
   refine Ev.step (f := fun _ => some (((x + bl 0 : Nat) : Int))) (fun k => ?_) (Ev.now _)
   simp only [gnomonref01_Bits.l0]
   rw [if_neg (by omega)]; rfl
  ·rw [bl_half h] at hx ⊢
   have h1 := ih (w / 2) (by omega) (x + 1) (by omega) (by omega)
   refine Ev.step (f := fun k => gnomonref01_Bits.l0 k ((x + 1 : Nat) : Int) ((w / 2 : Nat) : Int)) (fun k => ?_) ?_
   ·simp only [gnomonref01_Bits.l0]
    rw [if_pos (by omega), next_x x (by omega)]
    have : Int.tdiv (w : Int) 2 % 4294967296 = ((w / 2 : Nat) : Int) := by
     rw [Int.tdiv_eq_ediv_of_nonneg (by omega)]; omega
    rw [this]
   ·have e : x + (bl (w / 2) + 1) = x + 1 + bl (w / 2) := by omega
    rw [e]; exact h1
theorem bl_digits {t : List Int} {d : Int} (ht : Dg t) (h0 : 0 < d) (h1 : d < 4294967296) : bl (vl (t ++ [d])) = 32 * t.length + bl d.toNat := by
 have hv := vl_lt ht
 rw [vl_snoc]
 rw [pw_B] at hv ⊢
 have hd := bl_lt d.toNat
 have hg := bl_ge (n := d.toNat) (by omega)
 have hb : bl d.toNat ≠ 0 := by unfold bl; rw [if_neg (by omega)]; omega
 apply bl_of
 ·rw [Nat.pow_add]
  have : 2^(32 * t.length) * (d.toNat + 1) ≤ 2^(32 * t.length) * 2^(bl d.toNat) := Nat.mul_le_mul_left _ hd
  rw [Nat.mul_add, Nat.mul_one] at this
  omega
 ·right
  rw [show 32 * t.length + bl d.toNat - 1 = 32 * t.length + (bl d.toNat - 1) from by omega, Nat.pow_add]
  have := Nat.mul_le_mul_left (2^(32 * t.length)) hg
  omega
theorem bits_ev (m : Nat) (hm : (dg m).length < 1099511627776) : Ev (fun k => gnomonref01_Bits.f k (dg m)) ((bl m : Nat) : Int) := by
 unfold gnomonref01_Bits.f
 by_cases h : m = 0
 ·subst h
  have e : ((dg 0).length : Int) = 0 := by rw [dg_zero]; rfl
  simp only [if_pos e]
  exact Ev.now _
 ·obtain ⟨t, d, e, hd⟩ := dg_last h
  have hD := dg_Dg m
  have hdd := hD d (by rw [e]; simp)
  have htD : Dg t := fun x hx => hD x (by rw [e]; simp [hx])
  have hl : (dg m).length = t.length + 1 := by rw [e, List.length_append]; rfl
  have c1 : ¬ ((dg m).length : Int) = 0 := by omega
  have c2 : wrap64 (((dg m).length : Int) - 1) = (t.length : Int) := by rw [w64 (by omega) (by omega)]; omega
  have c3 : (0 : Int) ≤ (t.length : Int) := by omega
  have c4 : (t.length : Int) < ((dg m).length : Int) := by omega
  have c5 : rd (dg m) (t.length : Int) = d := by rw [rd_get (by omega)]; simp [e]
  have c6 : wrap64 (32 * (t.length : Int)) = ((32 * t.length : Nat) : Int) := by rw [w64 (by omega) (by omega)]; omega
  simp only [if_neg c1, c2, if_pos c3, if_pos c4, c5, c6]
  have hb := bl_digits htD (show 0 < d by omega) hdd.2
  rw [← e, vl_dg] at hb
  have hbd : bl d.toNat ≤ 32 := bl_le_of_lt (by omega)
  have := bits_l0 d.toNat (32 * t.length) (by omega) (by omega)
  rw [show ((d.toNat : Nat) : Int) = d from by omega] at this
  rw [hb]; exact this
end Go.Proofs.YtelfmddcjlocpaaGreatDoor.Ref
end
section
namespace Go.Proofs.YtelfmddcjlocpaaGreatDoor.Ref
open Go.RowKit Go.Proofs.YtelfmddcjlocpaaGreatDoorW.PrintWords Go.Proofs.YtelfmddcjlocpaaGreatDoorW.PrintMore Go.Proofs.YtelfmddcjlocpaaGreatDoor.Num Go.Proofs.YtelfmddcjlocpaaGreatDoor.PLib Go.Proofs.YtelfmddcjlocpaaGreatDoor.PRef Go.Proofs.YtelfmddcjlocpaaGreatDoor.PRfz
theorem dg_set {l : List Int} (h : Dg l) (i : Nat) {v : Int} (h0 : 0 ≤ v) (h1 : v < 4294967296) : Dg (l.set i v) := by
 intro x hx
 rcases List.mem_or_eq_of_mem_set hx with hx | rfl
 ·exact h x hx
 ·exact ⟨h0, h1⟩
theorem drop_dg (k : Nat) : ∀ m : Nat, (dg m).drop k = dg (m / B^k) := by
 induction k with
 | zero => intro m; rw [List.drop_zero, Nat.pow_zero, Nat.div_one]
 | succ k ih =>
  intro m
  by_cases h : m = 0
  ·subst h; rw [dg_zero, List.drop_nil, Nat.zero_div, dg_zero]
  ·rw [dg_pos h, List.drop_succ_cons, ih, Nat.div_div_eq_div_mul, Nat.pow_succ, Nat.mul_comm]
theorem div_pow_split (m n : Nat) : m / B^(n / 32) / 2^(n % 32) = m / 2^n := by
 rw [Nat.div_div_eq_div_mul, pw_B, ← Nat.pow_add]
 have hn32 : 32 * (n / 32) + n % 32 = n := Nat.div_add_mod n 32
 rw [hn32]
def lm (n : Nat) : List Int := if _h : n = 0 then [] else ((n % 18446744073709551616 : Nat) : Int) :: lm (n / 18446744073709551616)
termination_by n
decreasing_by exact Nat.div_lt_self (by omega) (by omega)
theorem B2 : B * B = 18446744073709551616 := by decide
end Go.Proofs.YtelfmddcjlocpaaGreatDoor.Ref
end
section
namespace Fl
theorem pw (k : Nat) : 0 < (2:Nat)^k := Nat.two_pow_pos k
end Fl
namespace Fl
def hx (g : Nat) (a : Int) : Nat := max (a.natAbs.log2 + 1 - 26) g
end Fl
namespace Fl
open Ieee
def sz (w : Nat) : Nat := w % 2^63
def INF : Nat := 2047 * 2^52
def fin (w : Nat) : Prop := sz w < INF
end Fl
end
section
namespace Go.Proofs.YtelfmddcjlocpaaGreatDoor.Ref
open Go.RowKit Go.Proofs.YtelfmddcjlocpaaGreatDoorW.PrintWords Go.Proofs.YtelfmddcjlocpaaGreatDoorW.PrintMore Go.Proofs.YtelfmddcjlocpaaGreatDoor.Num Go.Proofs.YtelfmddcjlocpaaGreatDoor.PLib Go.Proofs.YtelfmddcjlocpaaGreatDoor.PRef Go.Proofs.YtelfmddcjlocpaaGreatDoor.PRfz Fl
def zn (z : Int) : Bool := decide (z < 0)
def Zs (z : Int) : Prop := (dg z.natAbs).length < 274877906944
theorem Zs_of {z : Int} {k : Nat} (h : z.natAbs < 2^k) (hk : k ≤ 8796093022000) : Zs z := by
 unfold Zs
 have h2 : z.natAbs < B^(k / 32 + 1) := by
  rw [pw_B]
  exact Nat.lt_of_lt_of_le h (Nat.pow_le_pow_right (by decide) (by omega))
 have := dg_len_le h2
 omega
def sgn (z : Int) : Int := if z = 0 then 0 else if z < 0 then -1 else 1
theorem dg_len_bits {n k : Nat} (h : n < 2^k) (hk : k ≤ 8796093022000) : (dg n).length < 274877906944 := by
 have := Zs_of (z := (n : Int)) (k := k) (by simpa using h) hk
 unfold Zs at this; simpa using this
end Go.Proofs.YtelfmddcjlocpaaGreatDoor.Ref
end
section
namespace Go.Proofs.YtelfmddcjlocpaaGreatDoor.Ref
open Go.RowKit Go.Proofs.YtelfmddcjlocpaaGreatDoorW.PrintWords Go.Proofs.YtelfmddcjlocpaaGreatDoorW.PrintMore Go.Proofs.YtelfmddcjlocpaaGreatDoor.Num Go.Proofs.YtelfmddcjlocpaaGreatDoor.PLib Go.Proofs.YtelfmddcjlocpaaGreatDoor.PRef Go.Proofs.YtelfmddcjlocpaaGreatDoor.PRfz Fl
theorem rd_set_other {l : List Int} {i j : Nat} (v : Int) (h : j ≠ i) : rd (l.set i v) (j : Int) = rd l (j : Int) := by
 by_cases hj : j < l.length
 ·rw [rd_get (by rw [List.length_set]; exact hj), rd_get hj, List.getElem_set_ne (by omega)]
 ·rw [rd_out (by rw [List.length_set]; omega), rd_out (by omega)]
theorem vl_set : ∀ (l : List Int) (i : Nat) (v : Int), i < l.length → vl (l.set i v) + B^i * (rd l (i : Int)).toNat = vl l + B^i * v.toNat := by
 intro l
 induction l with
 | nil => intro i v h; simp at h
 | cons d t ih =>
  intro i v h
  cases i with
  | zero =>
   rw [rd_get h]
   simp only [List.set_cons_zero, List.getElem_cons_zero, vl, Nat.pow_zero, Nat.one_mul]
   omega
  | succ i =>
   have hi : i < t.length := by simpa using h
   have e := ih i v hi
   rw [rd_get hi] at e
   rw [rd_get h]
   simp only [List.set_cons_succ, List.getElem_cons_succ, vl, Nat.pow_succ, Nat.mul_comm _ B, Nat.mul_assoc]
   have e2 := congrArg (B * ·) e
   simp only [Nat.mul_add] at e2
   omega
theorem mul_t {c r x y : Nat} (hc : c < 4294967296) (hr : r < 4294967296) (hx : x < 4294967296) (hy : y < 4294967296) : c + r + x * y < 18446744073709551616 ∧ x * y ≤ 18446744065119617025 := by
 have h : x * y ≤ 4294967295 * 4294967295 := Nat.mul_le_mul (by omega) (by omega)
 omega
theorem wadd (i j : Nat) (h : i + j < 1099511627776) : wrap64 ((i : Int) + (j : Int)) = ((i + j : Nat) : Int) := by rw [w64 (by omega) (by omega)]; omega
theorem acc_w (c r q : Nat) (h : c + r + q < 18446744073709551616) : IntKind.u64.wrap ((c : Int) + IntKind.u64.wrap (IntKind.u64.wrap (r : Int) + IntKind.u64.wrap ((q : Nat) : Int))) = ((c + r + q : Nat) : Int) := by
 rw [wu64 (x := (r : Int)) (by omega) (by omega), wu64 (x := (q : Int)) (by omega) (by omega), wu64 (x := (r : Int) + (q : Int)) (by omega) (by omega), wu64 (by omega) (by omega)]; omega
theorem acc_lo (s : Nat) (h : s < 18446744073709551616) : Go.bits .and .u64 (s : Int) 4294967295 % 4294967296 = ((s % B : Nat) : Int) := by
 rw [mask32 (by omega) (by omega), Int.emod_emod, B_eq]; rfl
theorem acc_hi (s : Nat) : (s : Int) / 4294967296 = ((s / B : Nat) : Int) := by rw [B_eq]; rfl
theorem wu_nat (y : Nat) (h : y < 4294967296) : IntKind.u64.wrap (y : Int) = (y : Int) := wu64 (by omega) (by omega)
theorem mul_go (k : Nat) (a b p : List Int) (i j c x r y : Nat) (hc : c < 4294967296) (hr : r < 4294967296) (hx : x < 4294967296) (hy : y < 4294967296)
  (hj : j < b.length) (hp : i + j < p.length) (hl : p.length < 1099511627776) (er : rd p ((i + j : Nat) : Int) = (r : Int)) (ey : rd b (j : Int) = (y : Int)) :
  gnomonref01_Mul.l1 (k + 1) a b p (i : Int) (c : Int) (x : Int) (j : Int) =
   gnomonref01_Mul.l1 k a b (p.set (i + j) (((c + r + x * y) % B : Nat) : Int)) (i : Int) (((c + r + x * y) / B : Nat) : Int) (x : Int) ((j + 1 : Nat) : Int) := by
 have h1 := (mul_t hc hr hx hy).1
 have e1 := wadd i j (Nat.lt_trans hp hl)
 have e2 : wrap64 ((j : Int) + 1) = ((j + 1 : Nat) : Int) := next_i j (by clear er ey h1 e1; omega)
 have exy : (x : Int) * (y : Int) = ((x * y : Nat) : Int) := (Int.natCast_mul x y).symm
 simp only [gnomonref01_Mul.l1]
 rw [if_pos (Int.ofNat_lt.2 hj), e1, if_pos (Int.natCast_nonneg _), if_pos (Int.ofNat_lt.2 hp), if_pos (Int.natCast_nonneg _), er, ey, wu_nat y hy, exy, e2]
 rw [acc_w c r (x * y) h1, acc_lo _ h1, acc_hi, Int.toNat_natCast]
theorem mul_step {vp vp' vq P c r x y s Pi pb : Nat} (h1 : vp' + P * r = vp + P * (s % B)) (h2 : vp + P * c = vq + Pi * x * pb) (hs : s = c + r + x * y) :
  vp' + P * B * (s / B) = vq + Pi * x * pb + P * (x * y) := by
 have h := Nat.mod_add_div s B
 have e : P * s = P * (s % B) + P * B * (s / B) := by
  rw [Nat.mul_assoc, ← Nat.mul_add, h]
 rw [hs, Nat.mul_add, Nat.mul_add] at e
 rw [← hs] at e
 omega
theorem cmod (c : Nat) (h : c < 4294967296) : (c : Int) % 4294967296 = (c : Int) := by omega
theorem carry_lt {s : Nat} (h : s < 18446744073709551616) : s / B < 4294967296 := by rw [B_eq]; omega
theorem mul_l1 (a b q : List Int) (hb : Dg b) (i x : Nat) (hx : x < 4294967296) (hq : q.length < 1099511627776) (hlen : i + b.length < q.length) (R : List Int)
  (hend : ∀ p' : List Int, p'.length = q.length → Dg p' → (∀ t : Nat, i + b.length < t → rd p' (t : Int) = rd q (t : Int)) → vl p' = vl q + B^i * x * vl b → Ev (fun k => gnomonref01_Mul.l0 k a b p' ((i + 1 : Nat) : Int)) R)
  (hz : rd q ((i + b.length : Nat) : Int) = 0) (d : Nat) :
  ∀ (j : Nat) (p : List Int) (c : Nat), b.length - j = d → j ≤ b.length → p.length = q.length → Dg p → c < 4294967296 → (∀ t : Nat, i + j ≤ t → rd p (t : Int) = rd q (t : Int)) →
   vl p + B^(i + j) * c = vl q + B^i * x * pv b j → Ev (fun k => gnomonref01_Mul.l1 k a b p (i : Int) (c : Int) (x : Int) (j : Int)) R := by
 induction d with
 | zero =>
  intro j p c hd hj hp hDp hc hsame hv
  have ej : j = b.length := by omega
  subst ej
  have e1 := wadd i b.length (by clear hv hz; omega)
  have e2 : wrap64 ((i : Int) + 1) = ((i + 1 : Nat) : Int) := next_i i (by clear hv hz; omega)
  refine Ev.step (f := fun k => gnomonref01_Mul.l0 k a b (p.set (i + b.length) (c : Int)) ((i + 1 : Nat) : Int)) (fun k => ?_) ?_
  ·simp only [gnomonref01_Mul.l1]
   rw [if_neg (Int.lt_irrefl _), e1, if_pos (Int.natCast_nonneg _), if_pos (Int.ofNat_lt.2 (by rw [hp]; exact hlen)), Int.toNat_natCast, cmod c hc, e2]
  ·refine hend _ (by rw [List.length_set]; exact hp) (dg_set hDp _ (Int.natCast_nonneg _) (Int.ofNat_lt.2 hc)) ?_ ?_
   ·intro t ht
    rw [rd_set_other _ (by clear hv hz; omega)]
    exact hsame t (by clear hv hz; omega)
   ·have hs := vl_set p (i + b.length) (c : Int) (by rw [hp]; exact hlen)
    rw [hsame _ (Nat.le_refl _), hz, Int.toNat_natCast] at hs
    rw [pv_all (Nat.le_refl _)] at hv
    have : B^(i + b.length) * (0 : Int).toNat = 0 := Nat.mul_zero _
    omega
 | succ d ih =>
  intro j p c hd hj hp hDp hc hsame hv
  have rp := hDp.rd ((i + j : Nat) : Int)
  have rb := hb.rd (j : Int)
  obtain ⟨r, er⟩ := Int.eq_ofNat_of_zero_le rp.1
  obtain ⟨y, ey⟩ := Int.eq_ofNat_of_zero_le rb.1
  have hr : r < 4294967296 := Int.ofNat_lt.1 (er ▸ rp.2)
  have hy : y < 4294967296 := Int.ofNat_lt.1 (ey ▸ rb.2)
  have h1 := (mul_t hc hr hx hy).1
  have hjl : j < b.length := by clear hv er ey h1; omega
  have hjp : i + j < p.length := by clear hv er ey h1; omega
  refine Ev.step (fun k => mul_go k a b p i j c x r y hc hr hx hy hjl hjp (by rw [hp]; exact hq) er ey) ?_
  have hlt : (((c + r + x * y) % B : Nat) : Int) < 4294967296 := Int.ofNat_lt.2 (Nat.mod_lt _ B_pos)
  refine ih (j + 1) _ _ (by clear hv er ey h1; omega) hjl (by rw [List.length_set]; exact hp) (dg_set hDp _ (Int.natCast_nonneg _) hlt) ?_ ?_ ?_
  ·exact carry_lt h1
  ·intro t ht
   rw [rd_set_other _ (by clear hv er ey h1; omega)]
   exact hsame t (by clear hv er ey h1; omega)
  ·have hs := vl_set p (i + j) (((c + r + x * y) % B : Nat) : Int) hjp
   rw [er, Int.toNat_natCast, Int.toNat_natCast] at hs
   have h := mul_step (s := c + r + x * y) (y := y) hs hv rfl
   rw [show i + (j + 1) = (i + j) + 1 by omega, Nat.pow_succ, h, pv_succ, ey, Int.toNat_natCast, Nat.mul_add, Nat.pow_add]
   simp only [Nat.mul_assoc, Nat.mul_left_comm x, Nat.add_assoc]
theorem mul_l0 (a b : List Int) (ha : Dg a) (hb : Dg b) (hl : a.length + b.length < 1099511627776) (d : Nat) :
  ∀ (i : Nat) (p : List Int), a.length - i = d → i ≤ a.length → p.length = a.length + b.length → Dg p → (∀ t : Nat, i + b.length ≤ t → rd p (t : Int) = 0) →
   vl p = pv a i * vl b → Ev (fun k => gnomonref01_Mul.l0 k a b p (i : Int)) (dg (vl a * vl b)) := by
 induction d with
 | zero =>
  intro i p hd hi hp hDp hz hv
  refine Ev.step (f := fun k => (gnomonref01_Norm.f k p).bind fun t => some t) (fun k => by simp only [gnomonref01_Mul.l0]; rw [if_neg (by omega)]) ?_
  refine bind_some_ev (norm_to hDp (by omega) ?_)
  rw [hv, pv_all (by omega)]
 | succ d ih =>
  intro i p hd hi hp hDp hz hv
  have ra := ha.rd (i : Int)
  obtain ⟨x, ex⟩ := Int.eq_ofNat_of_zero_le ra.1
  refine Ev.step (f := fun k => gnomonref01_Mul.l1 k a b p (i : Int) ((0 : Nat) : Int) (x : Int) ((0 : Nat) : Int)) (fun k => ?_) ?_
  ·simp only [gnomonref01_Mul.l0]
   rw [if_pos (by omega), if_pos (by omega), ex, wu64 (by omega) (by omega)]
   rfl
  ·refine mul_l1 a b p hb i x (by omega) (by omega) (by omega) _ ?_ (hz _ (Nat.le_refl _)) _ 0 p 0 rfl (by omega) rfl hDp (by decide) (fun t _ => rfl) (by rw [pv_zero, Nat.mul_zero, Nat.mul_zero])
   intro p' hp' hDp' hsame hv'
   refine ih (i + 1) p' (by omega) (by omega) (by omega) hDp' ?_ ?_
   ·intro t ht
    rw [hsame t (by omega)]
    exact hz t (by omega)
   ·rw [hv', hv, pv_succ, ex, Int.toNat_natCast, Nat.add_mul]
theorem mul_ev (m n : Nat) (hm : (dg m).length < 274877906944) (hn : (dg n).length < 274877906944) : Ev (fun k => gnomonref01_Mul.f k (dg m) (dg n)) (dg (m * n)) := by
 unfold gnomonref01_Mul.f
 have e1 : wrap64 (((dg m).length : Int) + ((dg n).length : Int)) = (((dg m).length + (dg n).length : Nat) : Int) := by rw [w64 (by omega) (by omega)]; omega
 have e2 : (0 : Int) ≤ (((dg m).length + (dg n).length : Nat) : Int) := by omega
 have e3 : (dg m).length + (dg n).length ≤ 70368744177664 := by omega
 simp only [e1, if_pos e2, Int.toNat_natCast, if_pos e3]
 have := mul_l0 (dg m) (dg n) (dg_Dg m) (dg_Dg n) (by omega) _ 0 (List.replicate ((dg m).length + (dg n).length) 0) rfl (by omega) (List.length_replicate ..) (Dg.zeros _)
  (fun t _ => by
   by_cases ht : t < (List.replicate ((dg m).length + (dg n).length) (0 : Int)).length
   ·rw [rd_get ht]; simp
   ·exact rd_out (by omega)) (by rw [vl_zeros, pv_zero, Nat.zero_mul])
 rw [vl_dg, vl_dg] at this
 exact this
end Go.Proofs.YtelfmddcjlocpaaGreatDoor.Ref
end
