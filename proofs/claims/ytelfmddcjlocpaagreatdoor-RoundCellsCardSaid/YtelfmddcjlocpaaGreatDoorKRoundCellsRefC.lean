/- What the reference's quotients by a digit, shifts to the right, and words of digits answer, told by numbers. Plain Lean over the printed functions. Conditions: lists of less than 2^38 digits, shifts below 2^40. -/
import Derived.Test.YtelfmddcjlocpaaGreatDoorKRoundCellsRefB
import Derived.Test.YtelfmddcjlocpaaGreatDoorKRoundCellsPRefx1
import Derived.Test.YtelfmddcjlocpaaGreatDoorKRoundCellsPRefx2
import Derived.Test.YtelfmddcjlocpaaGreatDoorKRoundCellsPxRfz
namespace Go.Proofs.YtelfmddcjlocpaaGreatDoor.Ref
open Go.RowKit Go.Proofs.YtelfmddcjlocpaaGreatDoorW.PrintWords Go.Proofs.YtelfmddcjlocpaaGreatDoorW.PrintMore Go.Proofs.YtelfmddcjlocpaaGreatDoor.Num Go.Proofs.YtelfmddcjlocpaaGreatDoor.PLib Go.Proofs.YtelfmddcjlocpaaGreatDoor.PRef Go.Proofs.YtelfmddcjlocpaaGreatDoor.PRfz
theorem dv_succ {l : List Int} {i : Nat} (h : i < l.length) : vl (l.drop i) = (rd l (i : Int)).toNat + B * vl (l.drop (i + 1)) := by
 rw [List.drop_eq_getElem_cons h, vl, rd_get h]
theorem rd_set_self {l : List Int} {i : Nat} (v : Int) (h : i < l.length) : rd (l.set i v) (i : Int) = v := by
 rw [rd_get (by rw [List.length_set]; exact h), List.getElem_set_self]
theorem drop_set_succ (l : List Int) (i : Nat) (v : Int) : (l.set i v).drop (i + 1) = l.drop (i + 1) := by
 rw [List.drop_set_of_lt (by omega)]
theorem dg_set {l : List Int} (h : Dg l) (i : Nat) {v : Int} (h0 : 0 ≤ v) (h1 : v < 4294967296) : Dg (l.set i v) := by
 intro x hx
 rcases List.mem_or_eq_of_mem_set hx with hx | rfl
 ·exact h x hx
 ·exact ⟨h0, h1⟩
theorem div_num {left r w : Nat} (hl : left < w) (hw : w < 4294967296) (hr : r < 4294967296) : (left * 4294967296 + r) / w < 4294967296 ∧ left * 4294967296 + r < 18446744073709551616 := by
 constructor
 ·rw [Nat.div_lt_iff_lt_mul (by omega)]
  have : (left + 1) * 4294967296 ≤ w * 4294967296 := Nat.mul_le_mul_right _ (by omega)
  rw [Nat.mul_comm 4294967296 w]
  omega
 ·omega
theorem div_go (k : Nat) (a q : List Int) (w left : Nat) (n : Nat) (w0 : 0 < w) (w1 : w < 4294967296) (hl : left < w) (r : Nat) (hr : rd a (n : Int) = (r : Int)) (hr1 : r < 4294967296) (hn : n < a.length) (hq : q.length = a.length) (hla : a.length < 1099511627776) :
  gnomonref01_DivSmall.l0 (k + 1) a (w : Int) q (left : Int) (((n + 1 : Nat) : Int) - 1) =
   gnomonref01_DivSmall.l0 k a (w : Int) (q.set n (((left * 4294967296 + r) / w : Nat) : Int)) (((left * 4294967296 + r) % w : Nat) : Int) ((n : Int) - 1) := by
 obtain ⟨b1, b2⟩ := div_num hl w1 hr1
 have e0 : ((n + 1 : Nat) : Int) - 1 = (n : Int) := by omega
 have e1 : wrap64 ((n : Int) - 1) = (n : Int) - 1 := w64 (by omega) (by omega)
 have e2 : IntKind.u64.wrap (w : Int) = (w : Int) := wu64 (by omega) (by omega)
 have e3 : IntKind.u64.wrap ((IntKind.u64.wrap ((left : Int) * 4294967296)) + (IntKind.u64.wrap (r : Int))) = ((left * 4294967296 + r : Nat) : Int) := by
  rw [wu64 (x := (left : Int) * 4294967296) (by omega) (by omega), wu64 (x := (r : Int)) (by omega) (by omega), wu64 (by omega) (by omega)]; omega
 have e4 : Int.tdiv ((left * 4294967296 + r : Nat) : Int) (w : Int) = (((left * 4294967296 + r) / w : Nat) : Int) := by
  rw [Int.tdiv_eq_ediv_of_nonneg (by omega)]; rfl
 have e5 : Int.tmod ((left * 4294967296 + r : Nat) : Int) (w : Int) = (((left * 4294967296 + r) % w : Nat) : Int) := by
  rw [Int.tmod_eq_emod_of_nonneg (by omega)]; rfl
 generalize (left * 4294967296 + r) / w = Q at *
 generalize (left * 4294967296 + r) % w = R at *
 rw [e0]
 simp only [gnomonref01_DivSmall.l0]
 rw [if_pos (by omega), if_pos (by omega), if_pos (by omega), e2, if_neg (by omega), if_pos (by omega), hr, e3, e4, e5, e1, wu64 (by omega) (by omega), Int.emod_eq_of_lt (by omega) (by omega), Int.toNat_natCast]
theorem div_val {va vq w left r : Nat} (hv : va = w * vq + left) : r + B * va = w * ((left * 4294967296 + r) / w + B * vq) + (left * 4294967296 + r) % w := by
 have h := Nat.div_add_mod (left * 4294967296 + r) w
 have e : B * va = w * (B * vq) + left * 4294967296 := by
  rw [hv, Nat.mul_add, Nat.mul_left_comm]
  have : B * left = left * 4294967296 := by rw [Nat.mul_comm]; rfl
  omega
 rw [Nat.mul_add]; omega
theorem div_l0 (a : List Int) (ha : Dg a) (hla : a.length < 1099511627776) (w : Nat) (w0 : 0 < w) (w1 : w < 4294967296) (n : Nat) :
  ∀ (q : List Int) (left : Nat), n ≤ a.length → q.length = a.length → Dg q → left < w → vl (a.drop n) = w * vl (q.drop n) + left →
   Ev (fun k => gnomonref01_DivSmall.l0 k a (w : Int) q (left : Int) ((n : Int) - 1)) (dg (vl a / w), ((vl a % w : Nat) : Int)) := by
 induction n with
 | zero =>
  intro q left hn hq hDq hl hv
  rw [List.drop_zero, List.drop_zero] at hv
  refine Ev.step (f := fun k => (gnomonref01_Norm.f k q).bind fun t => some (t, (left : Int) % 4294967296)) (fun k => by simp only [gnomonref01_DivSmall.l0]; rw [if_neg (by omega)]) ?_
  have e1 : vl a / w = vl q := by rw [hv, Nat.mul_add_div w0, Nat.div_eq_of_lt hl, Nat.add_zero]
  have e2 : vl a % w = left := by rw [hv, Nat.mul_add_mod]; exact Nat.mod_eq_of_lt hl
  rw [e1, e2, Int.emod_eq_of_lt (by omega) (by omega)]
  exact Ev.bind (norm_ev hDq (by omega)) (Ev.now _)
 | succ n ih =>
  intro q left hn hq hDq hl hv
  have ra := ha.rd (n : Int)
  obtain ⟨r, hr⟩ := Int.eq_ofNat_of_zero_le ra.1
  have hr1 : r < 4294967296 := by omega
  obtain ⟨b1, b2⟩ := div_num hl w1 hr1
  refine Ev.step (fun k => div_go k a q w left n w0 w1 hl r hr hr1 (by omega) hq hla) ?_
  refine ih _ _ (by omega) (by rw [List.length_set]; exact hq) (dg_set hDq n (Int.natCast_nonneg _) (by generalize (left * 4294967296 + r) / w = z at b1 ⊢; omega)) (Nat.mod_lt _ w0) ?_
  rw [dv_succ (by omega), dv_succ (l := q.set n _) (by rw [List.length_set]; omega), rd_set_self _ (by omega), drop_set_succ, hr, Int.toNat_natCast, Int.toNat_natCast]
  exact div_val hv
theorem divS_ev (m w : Nat) (hm : (dg m).length < 1099511627776) (w0 : 0 < w) (w1 : w < 4294967296) :
  Ev (fun k => gnomonref01_DivSmall.f k (dg m) (w : Int)) (dg (m / w), ((m % w : Nat) : Int)) := by
 unfold gnomonref01_DivSmall.f
 have c0 : ¬ (w : Int) = 0 := by omega
 have c1 : (0 : Int) ≤ ((dg m).length : Int) := by omega
 have c2 : (dg m).length ≤ 70368744177664 := by omega
 have c3 : wrap64 (((dg m).length : Int) - 1) = ((dg m).length : Int) - 1 := w64 (by omega) (by omega)
 simp only [if_neg c0, if_pos c1, Int.toNat_natCast, if_pos c2, c3]
 have := div_l0 (dg m) (dg_Dg m) hm w w0 w1 (dg m).length (List.replicate (dg m).length 0) 0 (Nat.le_refl _) (List.length_replicate ..) (Dg.zeros _) w0 (by
  rw [List.drop_eq_nil_of_le (Nat.le_refl _), List.drop_eq_nil_of_le (by rw [List.length_replicate]; exact Nat.le_refl _)]; simp [vl])
 rw [vl_dg] at this
 exact this
theorem drop_dg (k : Nat) : ∀ m : Nat, (dg m).drop k = dg (m / B^k) := by
 induction k with
 | zero => intro m; rw [List.drop_zero, Nat.pow_zero, Nat.div_one]
 | succ k ih =>
  intro m
  by_cases h : m = 0
  ·subst h; rw [dg_zero, List.drop_nil, Nat.zero_div, dg_zero]
  ·rw [dg_pos h, List.drop_succ_cons, ih, Nat.div_div_eq_div_mul, Nat.pow_succ, Nat.mul_comm]
theorem div_pow_split (m n : Nat) : m / B^(n / 32) / 2^(n % 32) = m / 2^n := by
 rw [Nat.div_div_eq_div_mul, pw_B, ← Nat.pow_add]
 have hn32 : 32 * (n / 32) + n % 32 = n := Nat.div_add_mod n 32
 rw [hn32]
theorem shr_ev (m n : Nat) (hm : (dg m).length < 274877906944) (hn : n < 1099511627776) : Ev (fun k => gnomonref01_Shr.f k (dg m) (n : Int)) (dg (m / 2^n)) := by
 unfold gnomonref01_Shr.f
 have hr : n % 32 < 32 := Nat.mod_lt _ (by decide)
 have hqq : wrap64 (Int.tdiv (n : Int) 32) = ((n / 32 : Nat) : Int) := by rw [tdiv32, w64 (by omega) (by omega)]
 have hs := shl_u32 _ hr
 have hp := two_pow_lt32 _ hr
 have hpos := Nat.two_pow_pos (n % 32)
 have hsplit := div_pow_split m n
 by_cases h0 : n = 0
 ·subst h0
  have c : ((0 : Nat) : Int) ≤ 0 := by omega
  simp only [if_pos c]
  rw [Nat.pow_zero, Nat.div_one]
  exact bind_some_ev (norm_dg m (by omega))
 ·have c : ¬ (n : Int) ≤ 0 := by omega
  simp only [if_neg c, hqq]
  by_cases hge : (dg m).length ≤ n / 32
  ·have c1 : ((n / 32 : Nat) : Int) ≥ ((dg m).length : Int) := by omega
   simp only [if_pos c1]
   have hz : m / B^(n / 32) = 0 := by
    apply Nat.div_eq_of_lt
    exact Nat.lt_of_lt_of_le (dg_len_lt m) (Nat.pow_le_pow_right B_pos hge)
   rw [hz, Nat.zero_div] at hsplit
   rw [← hsplit]
   exact bind_some_ev (word_ev 0 (by omega) (by omega))
  ·have c1 : ¬ ((n / 32 : Nat) : Int) ≥ ((dg m).length : Int) := by omega
   have c2 : (0 : Int) ≤ ((n / 32 : Nat) : Int) := by omega
   have c3 : ((n / 32 : Nat) : Int) ≤ ((dg m).length : Int) := by omega
   have c4 : (0 : Int) ≤ ((n % 32 : Nat) : Int) := by omega
   simp only [if_neg c1, if_pos c2, if_pos c3, tmod32, if_pos c4, hs, Int.toNat_natCast]
   have hd := drop_dg (n / 32) m
   have hlen : (dg (m / B^(n / 32))).length < 1099511627776 := by rw [← hd, List.length_drop]; omega
   have hdv := divS_ev (m / B^(n / 32)) (2^(n % 32)) hlen hpos (by
    generalize 2^(n % 32) = P at *
    omega)
   rw [hsplit] at hdv
   rw [hd]
   exact Ev.bind hdv (Ev.now _)
def lm (n : Nat) : List Int := if _h : n = 0 then [] else ((n % 18446744073709551616 : Nat) : Int) :: lm (n / 18446744073709551616)
termination_by n
decreasing_by exact Nat.div_lt_self (by omega) (by omega)
theorem lm_zero : lm 0 = [] := by rw [lm]; simp
theorem lm_pos {n : Nat} (h : n ≠ 0) : lm n = ((n % 18446744073709551616 : Nat) : Int) :: lm (n / 18446744073709551616) := by rw [lm]; simp [h]
theorem B2 : B * B = 18446744073709551616 := by decide
theorem to_l0 (l : List Int) (hla : l.length < 1099511627776) (n : Nat) : ∀ (i : Nat) (s : List Int), l.drop i = dg n → s.length ≤ i → i < 1099511627778 →
  Ev (fun k => gnomonref01_To.l0 k l s (i : Int)) (s ++ lm n) := by
 induction n using Nat.strongRecOn with
 | _ n ih =>
  intro i s hd hs hi
  by_cases h : n = 0
  ·subst h
   rw [dg_zero] at hd
   have hge : l.length ≤ i := List.drop_eq_nil_iff.1 hd
   rw [lm_zero, List.append_nil]
   refine Ev.step (f := fun _ => some s) (fun k => ?_) (Ev.now _)
   simp only [gnomonref01_To.l0]
   rw [if_neg (by omega)]
  ·have hlt : i < l.length := by
    by_cases hc : i < l.length
    ·exact hc
    ·rw [List.drop_eq_nil_of_le (by omega)] at hd
     exact absurd (dg_nil_iff.1 hd.symm) h
   have hdd : l.drop (i + 2) = dg (n / 18446744073709551616) := by
    have e : l.drop (i + 2) = (l.drop i).drop 2 := by rw [List.drop_drop]
    rw [e, hd, drop_dg]
    have : B^2 = 18446744073709551616 := by rw [Nat.pow_two]; exact B2
    rw [this]
   have hnext := ih (n / 18446744073709551616) (Nat.div_lt_self (by omega) (by omega)) (i + 2) (s ++ [((n % 18446744073709551616 : Nat) : Int)]) hdd (by rw [List.length_append]; simp; omega) (by omega)
   rw [List.append_assoc, List.singleton_append, ← lm_pos h] at hnext
   have e2 : wrap64 ((i : Int) + 2) = ((i + 2 : Nat) : Int) := by rw [w64 (by omega) (by omega)]; omega
   have e1 : wrap64 ((i : Int) + 1) = ((i + 1 : Nat) : Int) := by rw [w64 (by omega) (by omega)]; omega
   have r0 : rd l (i : Int) = ((n % B : Nat) : Int) := by
    rw [rd_get hlt]
    have h3 : l.drop i = l[i] :: l.drop (i + 1) := List.drop_eq_getElem_cons hlt
    rw [hd, dg_pos h] at h3
    injection h3 with h3 _
    exact h3.symm
   have r1d : l.drop (i + 1) = dg (n / B) := by
    have e : l.drop (i + 1) = (l.drop i).drop 1 := by rw [List.drop_drop]
    rw [e, hd, drop_dg, Nat.pow_one]
   have hm0 := Nat.mod_lt n B_pos
   refine Ev.step (f := fun k => gnomonref01_To.l0 k l (s ++ [((n % 18446744073709551616 : Nat) : Int)]) ((i + 2 : Nat) : Int)) (fun k => ?_) hnext
   simp only [gnomonref01_To.l0]
   rw [if_pos (by omega), if_pos (by omega), e1, e2]
   have hbase := B_eq
   by_cases hi1 : i + 1 < l.length
   ·rw [if_pos (by omega), if_pos (by omega), if_pos (by omega)]
    have hne : n / B ≠ 0 := by
     intro e
     rw [e, dg_zero] at r1d
     have := List.drop_eq_nil_iff.1 r1d; omega
    have r1 : rd l ((i + 1 : Nat) : Int) = ((n / B % B : Nat) : Int) := by
     rw [rd_get hi1]
     have h3 : l.drop (i + 1) = l[i + 1] :: l.drop (i + 1 + 1) := List.drop_eq_getElem_cons hi1
     rw [r1d, dg_pos hne] at h3
     injection h3 with h3 _
     exact h3.symm
    have hm1 := Nat.mod_lt (n / B) B_pos
    rw [r0, r1]
    have e3 : n % 18446744073709551616 = n % B + n / B % B * 4294967296 := by
     have := Nat.mod_mul (x := n) (a := B) (b := B)
     rw [B2] at this
     rw [this, Nat.mul_comm B, hbase]
    rw [e3]
    rw [hbase] at *
    generalize n % 4294967296 = x at *
    generalize n / 4294967296 % 4294967296 = y at *
    rw [wu64 (x := (x : Int)) (by omega) (by omega), wu64 (x := (y : Int)) (by omega) (by omega), wu64 (x := (y : Int) * 4294967296) (by omega) (by omega), wu64 (by omega) (by omega)]
    congr 2
   ·rw [if_neg (by omega), if_pos (by omega)]
    have hz : n / B = 0 := by
     have : l.drop (i + 1) = [] := List.drop_eq_nil_of_le (by omega)
     rw [this] at r1d
     exact dg_nil_iff.1 r1d.symm
    have hnB : n < B := by
     have := Nat.div_add_mod n B
     rw [hz] at this; omega
    have e3 : n % 18446744073709551616 = n % B := by rw [hbase] at *; omega
    rw [r0, e3]
    rw [hbase] at *
    generalize n % 4294967296 = x at *
    rw [wu64 (x := (x : Int)) (by omega) (by omega)]
theorem to_ev (m : Nat) (hm : (dg m).length < 1099511627776) : Ev (fun k => gnomonref01_To.f k (dg m)) (lm m) := by
 unfold gnomonref01_To.f
 refine Ev.bind (norm_dg m hm) ?_
 have c0 : wrap64 (((dg m).length : Int) / 2) = ((dg m).length : Int) / 2 := w64 (by omega) (by omega)
 have c1 : wrap64 (((dg m).length : Int) / 2 + 1) = ((dg m).length : Int) / 2 + 1 := w64 (by omega) (by omega)
 have c2 : (0 : Int) ≤ ((dg m).length : Int) / 2 + 1 := by omega
 have c3 : (((dg m).length : Int) / 2 + 1).toNat ≤ 35184372088832 := by omega
 simp only [c0, c1, if_pos c2, if_pos c3]
 exact to_l0 (dg m) hm m 0 [] (List.drop_zero) (Nat.le_refl _) (by omega)
end Go.Proofs.YtelfmddcjlocpaaGreatDoor.Ref
