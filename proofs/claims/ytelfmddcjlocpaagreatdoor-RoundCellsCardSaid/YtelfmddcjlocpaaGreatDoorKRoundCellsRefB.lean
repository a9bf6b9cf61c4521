/- What the reference's products by a digit, shifts, counts of bits, quotients by a digit and words answer, told by numbers. Plain Lean over the printed functions. Conditions: lists of less than 2^38 digits, shifts below 2^40. -/
import Derived.Test.YtelfmddcjlocpaaGreatDoorKRoundCellsRefA
import Derived.Test.YtelfmddcjlocpaaGreatDoorKRoundCellsPRefx1
import Derived.Test.YtelfmddcjlocpaaGreatDoorKRoundCellsPRefx2
import Derived.Test.YtelfmddcjlocpaaGreatDoorKRoundCellsPxRfz
namespace Go.Proofs.YtelfmddcjlocpaaGreatDoor.Ref
open Go.RowKit Go.Proofs.YtelfmddcjlocpaaGreatDoorW.PrintWords Go.Proofs.YtelfmddcjlocpaaGreatDoorW.PrintMore Go.Proofs.YtelfmddcjlocpaaGreatDoor.Num Go.Proofs.YtelfmddcjlocpaaGreatDoor.PLib Go.Proofs.YtelfmddcjlocpaaGreatDoor.PRef Go.Proofs.YtelfmddcjlocpaaGreatDoor.PRfz
theorem prod_bound {x w : Int} (h0 : 0 ≤ x) (h1 : x < 4294967296) (h2 : 0 ≤ w) (h3 : w < 4294967296) : 0 ≤ x * w ∧ x * w ≤ 18446744065119617025 := by
 refine ⟨Int.mul_nonneg h0 h2, ?_⟩
 have := Int.mul_le_mul (show x ≤ 4294967295 by omega) (show w ≤ 4294967295 by omega) h2 (by omega)
 omega
theorem mulS_go (k : Nat) (a s : List Int) (w c : Int) (i : Nat) (w0 : 0 ≤ w) (w1 : w < 4294967296) (h0 : 0 ≤ c) (h1 : c < 4294967296) (r0 : 0 ≤ rd a (i : Int)) (r1 : rd a (i : Int) < 4294967296) (hi : i < a.length) (hla : a.length < 1099511627775) (hs : s.length = i) :
  gnomonref01_MulSmall.l0 (k + 1) a w s c (i : Int) = gnomonref01_MulSmall.l0 k a w (s ++ [(c + rd a (i : Int) * w) % 4294967296]) ((c + rd a (i : Int) * w) / 4294967296) ((i + 1 : Nat) : Int) := by
 have e3 := next_i i (by omega)
 obtain ⟨p0, p1⟩ := prod_bound r0 r1 w0 w1
 simp only [gnomonref01_MulSmall.l0]
 rw [if_pos (by omega), if_pos (by omega), if_pos (by omega), wu64 r0 (by omega), wu64 w0 (by omega)]
 generalize rd a (i : Int) * w = p at *
 rw [wu64 p0 (by omega), wu64 (by omega) (by omega), mask32 (by omega) (by omega), e3, Int.emod_emod]
theorem mulS_val {vs P c r w pa c0 : Nat} (hv : vs + P * c = pa * w + c0) : vs + P * ((c + r * w) % B) + P * B * ((c + r * w) / B) = (pa + P * r) * w + c0 := by
 have h := digit_split (c + r * w) P vs (vs + P * (c + r * w)) rfl
 rw [h, Nat.mul_add, Nat.add_mul, Nat.mul_assoc]; omega
theorem mulS_toNat {c r w : Int} (h0 : 0 ≤ c) (h1 : 0 ≤ r) (h2 : 0 ≤ w) :
  ((c + r * w) % 4294967296).toNat = (c.toNat + r.toNat * w.toNat) % B ∧ ((c + r * w) / 4294967296).toNat = (c.toNat + r.toNat * w.toNat) / B := by
 have hbase := B_eq
 obtain ⟨r', rfl⟩ := Int.eq_ofNat_of_zero_le h1
 obtain ⟨w', rfl⟩ := Int.eq_ofNat_of_zero_le h2
 rw [hbase, Int.toNat_natCast, Int.toNat_natCast, ← Int.natCast_mul]
 generalize r' * w' = p
 omega
theorem mulS_l0 (a : List Int) (ha : Dg a) (hla : a.length < 1099511627775) (w c0 : Int) (w0 : 0 ≤ w) (w1 : w < 4294967296) (d : Nat) :
  ∀ (i : Nat) (s : List Int) (c : Int), a.length - i = d → i ≤ a.length → s.length = i → Dg s → 0 ≤ c → c < 4294967296 →
   vl s + B^i * c.toNat = pv a i * w.toNat + c0.toNat → Ev (fun k => gnomonref01_MulSmall.l0 k a w s c (i : Int)) (dg (vl a * w.toNat + c0.toNat)) := by
 induction d with
 | zero =>
  intro i s c hd hi hs hDs h0 h1 hv
  refine Ev.step (f := fun k => (gnomonref01_Norm.f k (s ++ [c])).bind fun t => some t) (fun k => ?_) ?_
  ·simp only [gnomonref01_MulSmall.l0]
   rw [if_neg (by omega), if_pos (by omega), Int.emod_eq_of_lt h0 h1]
  ·refine bind_some_ev (norm_to (hDs.snoc h0 h1) (by rw [List.length_append, hs]; simp; omega) ?_)
   rw [vl_snoc, hs, hv, pv_all (by omega)]
 | succ d ih =>
  intro i s c hd hi hs hDs h0 h1 hv
  have ra := ha.rd (i : Int)
  have hil : i < a.length := by omega
  obtain ⟨p0, p1⟩ := prod_bound ra.1 ra.2 w0 w1
  have ht := mulS_toNat h0 ra.1 w0
  refine Ev.step (fun k => mulS_go k a s w c i w0 w1 h0 h1 ra.1 ra.2 hil hla hs) ?_
  refine ih (i + 1) _ _ (by omega) (by omega) (by rw [List.length_append, hs]; rfl) (hDs.snoc (Int.emod_nonneg _ (by decide)) (Int.emod_lt_of_pos _ (by decide))) (Int.ediv_nonneg (by omega) (by decide)) (by omega) ?_
  rw [vl_snoc, hs, pv_succ, Nat.pow_succ, ht.1, ht.2]
  exact mulS_val hv
theorem mulS_ev (m : Nat) (w c : Int) (hm : (dg m).length < 1099511627775) (w0 : 0 ≤ w) (w1 : w < 4294967296) (c0 : 0 ≤ c) (c1 : c < 4294967296) :
  Ev (fun k => gnomonref01_MulSmall.f k (dg m) w c) (dg (m * w.toNat + c.toNat)) := by
 unfold gnomonref01_MulSmall.f
 rw [w64 (by omega) (by omega)]
 have e1 : (0 : Int) ≤ ((dg m).length : Int) + 1 := by omega
 have e2 : (((dg m).length : Int) + 1).toNat ≤ 70368744177664 := by omega
 simp only [if_pos e1, if_pos e2, wu64 c0 (show c < 18446744073709551616 by omega)]
 have := mulS_l0 (dg m) (dg_Dg m) hm w c w0 w1 _ 0 [] c rfl (by omega) rfl Dg.nil c0 c1 (by simp [vl, pv_zero])
 rw [vl_dg] at this
 exact this
theorem shl_u32 (r : Nat) (h : r < 32) : shl .u32 1 (r : Int) = ((2^r : Nat) : Int) := by
 unfold shl
 have e : min ((r : Int)).toNat IntKind.u32.bits = r := by
  have : IntKind.u32.bits = 32 := rfl
  rw [this]; omega
 rw [e, Int.one_mul, IntKind.wrap_u32]
 have h1 : 2^r < 2^32 := Nat.pow_lt_pow_right (by decide) h
 have h2 : ((2:Int)^r) = ((2^r : Nat) : Int) := by push_cast; rfl
 rw [h2]
 generalize 2^r = P at *
 omega
theorem two_pow_lt32 (r : Nat) (h : r < 32) : (0 : Int) ≤ ((2^r : Nat) : Int) ∧ ((2^r : Nat) : Int) < 4294967296 := by
 have h1 : 2^r < 2^32 := Nat.pow_lt_pow_right (by decide) h
 generalize 2^r = P at *
 omega
theorem tdiv32 (n : Nat) : Int.tdiv (n : Int) 32 = ((n / 32 : Nat) : Int) := by rw [Int.tdiv_eq_ediv_of_nonneg (by omega)]; rfl
theorem tmod32 (n : Nat) : Int.tmod (n : Int) 32 = ((n % 32 : Nat) : Int) := by rw [Int.tmod_eq_emod_of_nonneg (by omega)]; rfl
theorem shl_zero (m : Nat) (x : Int) (hm : (dg m).length < 274877906944) : Ev (fun k => gnomonref01_Shl.j0 k (dg m) x true) (dg m) := by
 refine Ev.step (f := fun k => (gnomonref01_Norm.f k (dg m)).bind fun t => some t) (fun k => by simp only [gnomonref01_Shl.j0]; rw [if_pos (by decide)]) ?_
 exact bind_some_ev (norm_dg m (by omega))
theorem shl_len (m r : Nat) (hr : r < 32) : (dg (m * 2^r)).length ≤ (dg m).length + 1 := by
 apply dg_len_le
 have h1 := dg_len_lt m
 have h2 := (two_pow_lt32 _ hr).2
 have h3 : 2^r < B := by
  have hbase := B_eq
  generalize 2^r = P at *
  omega
 rw [Nat.pow_succ]
 exact Nat.mul_lt_mul'' h1 h3
theorem shl_val (m n : Nat) : vl (List.replicate (n / 32) 0 ++ dg (m * 2^(n % 32))) = m * 2^n := by
 rw [vl_append, vl_zeros, vl_dg, List.length_replicate, pw_B, Nat.zero_add, Nat.mul_comm, Nat.mul_assoc, ← Nat.pow_add]
 have hn32 : n % 32 + 32 * (n / 32) = n := Nat.mod_add_div n 32
 rw [hn32]
theorem shl_step (k m n : Nat) (hm : (dg m).length < 274877906944) (hn : n < 1099511627776) :
  gnomonref01_Shl.j0 (k + 1) (dg m) (n : Int) false = (gnomonref01_MulSmall.f k (dg m) ((2^(n % 32) : Nat) : Int) 0).bind fun t => if (List.replicate (n / 32) (0 : Int)).length + t.length < 35184372088832 then (gnomonref01_Norm.f k (List.replicate (n / 32) 0 ++ t)).bind fun u => some u else none := by
 have hr : n % 32 < 32 := Nat.mod_lt _ (by decide)
 have hqq : wrap64 (Int.tdiv (n : Int) 32) = ((n / 32 : Nat) : Int) := by rw [tdiv32, w64 (by omega) (by omega)]
 have hs := shl_u32 _ hr
 generalize hq : n / 32 = q at *
 have hq2 : q ≤ 34359738368 := by omega
 generalize hL : (dg m).length = L at *
 simp only [gnomonref01_Shl.j0]
 rw [if_neg (by decide), hqq, if_pos (by omega), hL, w64 (x := (q : Int) + (L : Int)) (by omega) (by omega), w64 (by omega) (by omega), if_pos (by omega), if_pos (by omega), tmod32, hs, Option.bind_some, if_pos (by omega), Int.toNat_natCast]
theorem shl_ev (m n : Nat) (hm : (dg m).length < 274877906944) (hn : n < 1099511627776) : Ev (fun k => gnomonref01_Shl.f k (dg m) (n : Int)) (dg (m * 2^n)) := by
 unfold gnomonref01_Shl.f
 by_cases h0 : n = 0
 ·subst h0
  have c : ((0 : Nat) : Int) ≤ 0 := by omega
  simp only [if_pos c]
  rw [Nat.pow_zero, Nat.mul_one]
  exact shl_zero m _ hm
 ·have c : ¬ (n : Int) ≤ 0 := by omega
  simp only [if_neg c]
  by_cases hz : m = 0
  ·subst hz
   have e : (((dg 0).length : Int) == 0) = true := by rw [dg_zero]; rfl
   simp only [e]
   rw [Nat.zero_mul]
   exact shl_zero 0 _ hm
  ·have hl0 : (dg m).length ≠ 0 := fun e => hz (dg_len_zero.1 e)
   have e : (((dg m).length : Int) == 0) = false := beq_eq_false_iff_ne.2 (by omega)
   simp only [e]
   have hr : n % 32 < 32 := Nat.mod_lt _ (by decide)
   have hmul := mulS_ev m ((2^(n % 32) : Nat) : Int) 0 (by omega) (two_pow_lt32 _ hr).1 (two_pow_lt32 _ hr).2 (by omega) (by omega)
   have hlen := shl_len m _ hr
   have hval := shl_val m n
   rw [Int.toNat_natCast, Int.toNat_zero, Nat.add_zero] at hmul
   refine Ev.step (fun k => shl_step k m n hm hn) (Ev.bind hmul ?_)
   have hc : (List.replicate (n / 32) (0 : Int)).length + (dg (m * 2^(n % 32))).length < 35184372088832 := by
    rw [List.length_replicate]
    generalize (dg (m * 2^(n % 32))).length = y at *
    omega
   simp only [if_pos hc]
   refine bind_some_ev (norm_to ((Dg.zeros _).append (dg_Dg _)) ?_ hval)
   rw [List.length_append, List.length_replicate]
   generalize (dg (m * 2^(n % 32))).length = y at *
   omega
theorem next_x (x : Nat) (hx : x < 1099511627776000) : wrap64 ((x : Int) + 1) = ((x + 1 : Nat) : Int) := by rw [w64 (by omega) (by omega)]; omega
theorem bits_l0 (w : Nat) : ∀ (x : Nat), w < 4294967296 → x + bl w < 1099511627776000 → Ev (fun k => gnomonref01_Bits.l0 k (x : Int) (w : Int)) ((x + bl w : Nat) : Int) := by
 induction w using Nat.strongRecOn with
 | _ w ih =>
  intro x hw hx
  by_cases h : w = 0
  ·subst h
   refine Ev.step (f := fun _ => some (((x + bl 0 : Nat) : Int))) (fun k => ?_) (Ev.now _)
   simp only [gnomonref01_Bits.l0]
   rw [if_neg (by omega)]; rfl
  ·rw [bl_half h] at hx ⊢
   have h1 := ih (w / 2) (by omega) (x + 1) (by omega) (by omega)
   refine Ev.step (f := fun k => gnomonref01_Bits.l0 k ((x + 1 : Nat) : Int) ((w / 2 : Nat) : Int)) (fun k => ?_) ?_
   ·simp only [gnomonref01_Bits.l0]
    rw [if_pos (by omega), next_x x (by omega)]
    have : Int.tdiv (w : Int) 2 % 4294967296 = ((w / 2 : Nat) : Int) := by
     rw [Int.tdiv_eq_ediv_of_nonneg (by omega)]; omega
    rw [this]
   ·have e : x + (bl (w / 2) + 1) = x + 1 + bl (w / 2) := by omega
    rw [e]; exact h1
theorem bl_digits {t : List Int} {d : Int} (ht : Dg t) (h0 : 0 < d) (h1 : d < 4294967296) : bl (vl (t ++ [d])) = 32 * t.length + bl d.toNat := by
 have hv := vl_lt ht
 rw [vl_snoc]
 rw [pw_B] at hv ⊢
 have hd := bl_lt d.toNat
 have hg := bl_ge (n := d.toNat) (by omega)
 have hb : bl d.toNat ≠ 0 := by unfold bl; rw [if_neg (by omega)]; omega
 apply bl_of
 ·rw [Nat.pow_add]
  have : 2^(32 * t.length) * (d.toNat + 1) ≤ 2^(32 * t.length) * 2^(bl d.toNat) := Nat.mul_le_mul_left _ hd
  rw [Nat.mul_add, Nat.mul_one] at this
  omega
 ·right
  rw [show 32 * t.length + bl d.toNat - 1 = 32 * t.length + (bl d.toNat - 1) from by omega, Nat.pow_add]
  have := Nat.mul_le_mul_left (2^(32 * t.length)) hg
  omega
theorem bits_ev (m : Nat) (hm : (dg m).length < 1099511627776) : Ev (fun k => gnomonref01_Bits.f k (dg m)) ((bl m : Nat) : Int) := by
 unfold gnomonref01_Bits.f
 by_cases h : m = 0
 ·subst h
  have e : ((dg 0).length : Int) = 0 := by rw [dg_zero]; rfl
  simp only [if_pos e]
  exact Ev.now _
 ·obtain ⟨t, d, e, hd⟩ := dg_last h
  have hD := dg_Dg m
  have hdd := hD d (by rw [e]; simp)
  have htD : Dg t := fun x hx => hD x (by rw [e]; simp [hx])
  have hl : (dg m).length = t.length + 1 := by rw [e, List.length_append]; rfl
  have c1 : ¬ ((dg m).length : Int) = 0 := by omega
  have c2 : wrap64 (((dg m).length : Int) - 1) = (t.length : Int) := by rw [w64 (by omega) (by omega)]; omega
  have c3 : (0 : Int) ≤ (t.length : Int) := by omega
  have c4 : (t.length : Int) < ((dg m).length : Int) := by omega
  have c5 : rd (dg m) (t.length : Int) = d := by rw [rd_get (by omega)]; simp [e]
  have c6 : wrap64 (32 * (t.length : Int)) = ((32 * t.length : Nat) : Int) := by rw [w64 (by omega) (by omega)]; omega
  simp only [if_neg c1, c2, if_pos c3, if_pos c4, c5, c6]
  have hb := bl_digits htD (show 0 < d by omega) hdd.2
  rw [← e, vl_dg] at hb
  have hbd : bl d.toNat ≤ 32 := bl_le_of_lt (by omega)
  have := bits_l0 d.toNat (32 * t.length) (by omega) (by omega)
  rw [show ((d.toNat : Nat) : Int) = d from by omega] at this
  rw [hb]; exact this
end Go.Proofs.YtelfmddcjlocpaaGreatDoor.Ref
