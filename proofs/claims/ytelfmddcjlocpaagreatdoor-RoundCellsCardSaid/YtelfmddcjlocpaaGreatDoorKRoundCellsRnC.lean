/- What round.Decide and round.Cell answer is what the document's answer. Plain Lean over the functions. Condition: words. -/
import Derived.Test.YtelfmddcjlocpaaGreatDoorKRoundCellsPxQ1
import Derived.Test.YtelfmddcjlocpaaGreatDoorKRoundCellsRefG
import Derived.Test.YtelfmddcjlocpaaGreatDoorKRoundCellsRefC
import Derived.Test.YtelfmddcjlocpaaGreatDoorKRoundCellsRefH
import Derived.Test.YtelfmddcjlocpaaGreatDoorKRoundCellsPxL2
import Derived.Test.YtelfmddcjlocpaaGreatDoorKRoundCellsPxQ0
import Derived.Test.YtelfmddcjlocpaaGreatDoorKRoundCellsPxL1
import Derived.Test.YtelfmddcjlocpaaGreatDoorKRoundCellsPxL0
set_option linter.unusedVariables false
namespace Go.Proofs.YtelfmddcjlocpaaGreatDoor.RnC
open Go.RowKit Go.Proofs.YtelfmddcjlocpaaGreatDoorW.PrintWords Go.Proofs.YtelfmddcjlocpaaGreatDoorW.PrintMore Go.Proofs.YtelfmddcjlocpaaGreatDoor.Num Go.Proofs.YtelfmddcjlocpaaGreatDoor.PLib Go.Proofs.YtelfmddcjlocpaaGreatDoor.PRef Go.Proofs.YtelfmddcjlocpaaGreatDoor.Ref Go.Proofs.YtelfmddcjlocpaaGreatDoor.GTh Go.Proofs.YtelfmddcjlocpaaGreatDoor.Given Go.Proofs.YtelfmddcjlocpaaGreatDoor.Rp1 Go.Proofs.YtelfmddcjlocpaaGreatDoor.Rp3 Go.Proofs.YtelfmddcjlocpaaGreatDoor.Rp4 Go.Proofs.YtelfmddcjlocpaaGreatDoor.Rp5 Go.Proofs.YtelfmddcjlocpaaGreatDoor.Rp7 Go.Proofs.YtelfmddcjlocpaaGreatDoor.BinLaw Go.Proofs.YtelfmddcjlocpaaGreatDoor.Fm8 Go.Proofs.YtelfmddcjlocpaaGreatDoor.Rnd Go.Proofs.YtelfmddcjlocpaaGreatDoor.Sq Go.Proofs.YtelfmddcjlocpaaGreatDoor.Sz Go.Proofs.YtelfmddcjlocpaaGreatDoor.RnL Go.Proofs.YtelfmddcjlocpaaGreatDoor.RnN
theorem ev_uniq {α : Type} {g : Nat → Option α} {a b : α} (h : Ev g a) (h' : Ev g b) : a = b := by
 obtain ⟨K, hK⟩ := h
 obtain ⟨K', hK'⟩ := h'
 have e1 := hK (K + K') (by omega)
 have e2 := hK' (K + K') (by omega)
 rw [e1] at e2
 exact Option.some.inj e2
theorem nl_step {n : Nat} (h : n ≠ 0) : nl n = nl (n / 18446744073709551616) + 1 := by
 have p : (2:Nat)^64 = 18446744073709551616 := by decide
 by_cases c : n / 18446744073709551616 = 0
 ·rw [c]
  have h1 : bl n ≤ 64 := bl_le_of_lt (by rw [p]; omega)
  have h2 : bl n ≠ 0 := fun e => by have := bl_lt n; rw [e] at this; omega
  have e : nl 0 = 0 := rfl
  rw [e]
  unfold nl
  omega
 ·have a := bl_ge c
  have b := bl_lt (n / 18446744073709551616)
  have k1 : 1 ≤ bl (n / 18446744073709551616) := by
   rcases Nat.eq_zero_or_pos (bl (n / 18446744073709551616)) with e | e
   ·rw [e] at b; omega
   ·exact e
  have e : bl n = bl (n / 18446744073709551616) + 64 := by
   refine bl_of ?_ (.inr ?_)
   ·rw [Nat.pow_add, p]; omega
   ·rw [show bl (n / 18446744073709551616) + 64 - 1 = (bl (n / 18446744073709551616) - 1) + 64 by omega, Nat.pow_add, p]; omega
  unfold nl
  omega
theorem dw_step (n j : Nat) : dw n (j + 1) = dw (n / 18446744073709551616) j := by
 have e : pw (j + 1) = 18446744073709551616 * pw j := by
  unfold pw
  rw [show 64 * (j + 1) = 64 + 64 * j by omega, Nat.pow_add, show (2:Nat)^64 = 18446744073709551616 by decide]
 unfold dw
 rw [Nat.div_div_eq_div_mul, e]
theorem lm_lb (n : Nat) : lm n = lb n := by
 induction n using Nat.strongRecOn with
 | _ n ih =>
  by_cases h : n = 0
  ·subst h; rw [lm_zero]; rfl
  ·have lt : n / 18446744073709551616 < n := Nat.div_lt_self (by omega) (by decide)
   rw [lm_pos h, ih _ lt]
   unfold lb
   rw [nl_step h, List.range_succ_eq_map, List.map_cons, List.map_map]
   congr 1
   ·unfold dw; rw [pw_zero, Nat.div_one]
   ·refine List.map_congr_left fun j _ => ?_
    show ((dw (n / 18446744073709551616) j : Nat) : Int) = ((dw n (j + 1) : Nat) : Int)
    rw [dw_step]
theorem len_small {m k : Nat} (h : bl m ≤ 32 * k) : (dg m).length ≤ k := dg_len_le (by rw [pw_B]; exact Nat.lt_of_lt_of_le (bl_lt m) (Nat.pow_le_pow_right (by decide) h))
theorem Zs_bl {z : Int} (h : bl z.natAbs ≤ 100000000) : Zs z := by
 unfold Zs
 have := len_small (m := z.natAbs) (k := 3125000) (by omega)
 omega
theorem sv_zn (neg : Bool) {m : Nat} (h0 : m = 0 → neg = false) : zn (sv neg m) = neg ∧ zl (sv neg m) = dg m := by
 refine ⟨?_, by unfold zl; rw [sv_abs]⟩
 unfold zn sv
 cases neg
 ·rw [if_neg (by decide)]; exact decide_eq_false (by omega)
 ·have : m ≠ 0 := fun e => by have := h0 e; cases this
  rw [if_pos rfl]; exact decide_eq_true (by omega)
theorem from5 {neg : Bool} {m : Nat} (hl : nl m ≤ 8192) (h0 : m = 0 → neg = false) : Ev (fun k => gnomonref04_From.f k neg (lb m)) (zn (sv neg m), zl (sv neg m)) := by
 have hb := bl_le' hl
 have len := len_small (m := m) (k := 16384) (by omega)
 obtain ⟨e1, e2⟩ := sv_zn neg h0
 have mk := zmk_ev neg m (by omega) (sv neg m) (sv_abs neg m) (fun n0 => by
  unfold sv
  cases neg
  ·rw [if_neg (by decide)]; exact (decide_eq_false (by omega)).symm
  ·rw [if_pos rfl]; exact (decide_eq_true (by omega)).symm)
 unfold gnomonref04_From.f
 exact Ev.bind (from_ev m hl) (Ev.bind mk (Ev.now _))
theorem sgn_sv (neg : Bool) (m : Nat) : Ref.sgn (sv neg m) = Rp1.sgn neg m := by
 by_cases c : m = 0
 ·subst c
  cases neg <;> rfl
 ·cases neg
  ·have e : Rp1.sgn false m = 1 := by unfold Rp1.sgn; rw [if_neg c]; rfl
   rw [e]
   show Ref.sgn ((m : Nat) : Int) = 1
   unfold Ref.sgn
   rw [if_neg (by omega), if_neg (by omega)]
  ·have e : Rp1.sgn true m = -1 := by unfold Rp1.sgn; rw [if_neg c]; rfl
   rw [e]
   show Ref.sgn (-((m : Nat) : Int)) = -1
   unfold Ref.sgn
   rw [if_neg (by omega), if_pos (by omega)]
theorem sign5 {neg : Bool} {m : Nat} {x : Int} (h : Dk neg m x) : Ev (fun k => gnomonref05_sign.f k neg (lb m) x) (Rp1.sgn neg m) := by
 unfold gnomonref05_sign.f
 refine Ev.bind (from5 h.lim (fun e => (h.zero e).1)) (Ev.bind (rn_ev (zsign _)) ?_)
 rw [sgn_sv]
 exact Ev.now _
theorem top5 {neg : Bool} {m : Nat} {x : Int} (h : Dk neg m x) : Ev (fun k => gnomonref05_top.f k neg (lb m) x) (x + ((bl m : Nat) : Int) - 1) := by
 have hb := bl_le' h.lim
 have h1 := h.low
 have h2 := h.high
 have len := len_small (m := m) (k := 16384) (by omega)
 unfold gnomonref05_top.f
 refine Ev.bind (from_ev m h.lim) (Ev.bind (bits_ev m (by omega)) ?_)
 rw [w64 (x := x + _) (by omega) (by omega), w64 (by omega) (by omega)]
 exact Ev.now _
theorem zof_any (i : Int) (h0 : -1000000000000 ≤ i) (h1 : i ≤ 1000000000000) : Ev (fun k => gnomonref04_Of.f k i) (zn i, zl i) := by
 by_cases c : 0 ≤ i
 ·exact zof_ev i c (by omega)
 have e1 : IntKind.u64.wrap (wrap64 (-(wrap64 (i + 1)))) = ((((-i - 1).toNat : Nat)) : Int) := by
  rw [w64 (x := i + 1) (by omega) (by omega), w64 (by omega) (by omega), wu64 (by omega) (by omega)]; omega
 have w1 := word_ev (((-i - 1).toNat : Nat) : Int) (by omega) (by omega)
 have w2 := word_ev 1 (by decide) (by decide)
 rw [Int.toNat_natCast] at w1
 have l1 : (dg (-i - 1).toNat).length ≤ 2 := dg_len_le (by rw [B_eq]; omega)
 have l2 : (dg (1 : Int).toNat).length ≤ 2 := dg_len_le (by rw [B_eq]; decide)
 have ad := add_ev (-i - 1).toNat (1 : Int).toNat (by omega) (by omega)
 have en : (-i - 1).toNat + (1 : Int).toNat = i.natAbs := by
  show (-i - 1).toNat + 1 = _
  omega
 rw [en] at ad
 have l3 : (dg i.natAbs).length ≤ 2 := dg_len_le (by rw [B_eq]; omega)
 unfold gnomonref04_Of.f
 rw [e1]
 refine Ev.congr (fun k => if_pos (by omega)) (Ev.bind w1 (Ev.bind w2 (Ev.bind ad (Ev.bind (zmk_ev true i.natAbs (by omega) i rfl (fun _ => (decide_eq_true (by omega)).symm)) (Ev.now _)))))
theorem Zs_small {i : Int} (h0 : -1000000000000 ≤ i) (h1 : i ≤ 1000000000000) : Zs i := by
 unfold Zs
 have : (dg i.natAbs).length ≤ 2 := dg_len_le (by rw [B_eq]; omega)
 omega
theorem docForm_dk {neg : Bool} {m : Nat} {x : Int} (h : Dk neg m x) : Ev (fun k => gnomonref05_DocForm.f k neg (lb m) x) true := by
 have := docForm_ev neg (lb m) x
 rwa [dyB_lb h] at this
theorem sgn3 (a b : Int) : Ref.sgn (a - b) = cmZ a b := by unfold Ref.sgn cmZ; split <;> (try split) <;> (try split) <;> (try split) <;> omega
theorem sgn_range (neg : Bool) (m : Nat) : Rp1.sgn neg m = -1 ∨ Rp1.sgn neg m = 0 ∨ Rp1.sgn neg m = 1 := by unfold Rp1.sgn; split <;> (try split) <;> simp
theorem cmI_3 (a b : Nat) : cmI a b = -1 ∨ cmI a b = 0 ∨ cmI a b = 1 := by unfold cmI; split <;> (try split) <;> simp
theorem sgn_mul_cm {neg : Bool} {m : Nat} (n0 : m ≠ 0) (a b : Nat) : Ref.sgn (sv neg a - sv neg b) = Rp1.sgn neg m * cmI a b := by
 rw [sgn3]
 cases neg
 ·have e : Rp1.sgn false m = 1 := by unfold Rp1.sgn; rw [if_neg n0]; rfl
  rw [e, Int.one_mul]
  show cmZ ((a : Nat) : Int) ((b : Nat) : Int) = cmI a b
  unfold cmZ cmI
  by_cases c : a < b
  ·rw [if_pos (by omega), if_pos c]
  ·by_cases d : b < a
   ·rw [if_neg (by omega), if_neg c, if_pos (by omega), if_pos d]
   ·rw [if_neg (by omega), if_neg c, if_neg (by omega), if_neg d]
 ·have e : Rp1.sgn true m = -1 := by unfold Rp1.sgn; rw [if_neg n0]; rfl
  rw [e]
  show cmZ (-((a : Nat) : Int)) (-((b : Nat) : Int)) = -1 * cmI a b
  unfold cmZ cmI
  by_cases c : a < b
  ·rw [if_neg (by omega), if_pos c, if_pos (by omega)]; rfl
  ·by_cases d : b < a
   ·rw [if_pos (by omega), if_neg c, if_pos d]; rfl
   ·rw [if_neg (by omega), if_neg c, if_neg (by omega), if_neg d]; rfl
theorem docCmp {neg neg' : Bool} {m m' : Nat} {x x' : Int} (h : Dk neg m x) (h' : Dk neg' m' x') : Ev (fun k => gnomonref05_DocCmp.f k neg (lb m) x neg' (lb m') x') (dcm neg m x neg' m' x', 0) := by
 have r1 := sgn_range neg m
 have r2 := sgn_range neg' m'
 unfold gnomonref05_DocCmp.f
 refine Ev.bind (docForm_dk h) (Ev.congr (fun k => if_pos rfl) (Ev.bind (docForm_dk h') (Ev.congr (fun k => if_pos rfl) (Ev.bind (sign5 h) (Ev.bind (sign5 h') ?_)))))
 obtain ⟨s, hs⟩ : ∃ s, s = Rp1.sgn neg m := ⟨_, rfl⟩
 obtain ⟨t, ht⟩ : ∃ t, t = Rp1.sgn neg' m' := ⟨_, rfl⟩
 have os := zof_any s (by omega) (by omega)
 have ot := zof_any t (by omega) (by omega)
 have cst := zcmp_ev s t (Zs_small (by omega) (by omega)) (Zs_small (by omega) (by omega)) (Zs_small (by omega) (by omega))
 rw [sgn3] at cst
 by_cases c1 : s = t
 ·refine Ev.congr (fun k => if_pos (by rw [← hs, ← ht]; exact c1)) ?_
  by_cases c2 : s = 0
  ·refine Ev.congr (fun k => if_pos (by rw [← hs]; exact c2)) ?_
   rw [← hs, ← ht]
   refine Ev.bind os (Ev.bind ot (Ev.bind cst ?_))
   have e : cmZ s t = dcm neg m x neg' m' x' := by
    unfold dcm cmZ
    rw [← hs, ← ht]
    rw [if_neg (by omega), if_neg (by omega), if_neg (by omega), if_neg (by omega), if_pos c2]
   rw [e]; exact Ev.now _
  ·refine Ev.congr (fun k => if_neg (by rw [← hs]; exact c2)) (Ev.bind (top5 h) (Ev.bind (top5 h') ?_))
   have m0 : m ≠ 0 := fun e => c2 (by rw [hs]; unfold Rp1.sgn; rw [if_pos e])
   have m0' : m' ≠ 0 := fun e => c2 (by rw [c1, ht]; unfold Rp1.sgn; rw [if_pos e])
   have en : neg = neg' := by
    rw [hs, ht] at c1
    unfold Rp1.sgn at c1
    rw [if_neg m0, if_neg m0'] at c1
    cases neg <;> cases neg' <;> first | rfl | (exfalso; revert c1; decide)
   have hb := bl_le' h.lim
   have hb' := bl_le' h'.lim
   have k1 := h.low
   have k2 := h.high
   have k3 := h'.low
   have k4 := h'.high
   have p1 := bl_pos m0
   have p2 := bl_pos m0'
   have ed : dcm neg m x neg' m' x' = s * szc m x m' x' := by
    unfold dcm
    rw [← hs, ← ht]
    rw [if_neg (by omega), if_neg (by omega), if_neg c2]
   rw [ed]
   obtain ⟨u, hu⟩ : ∃ u, u = x + ((bl m : Nat) : Int) - 1 := ⟨_, rfl⟩
   obtain ⟨u', hu'⟩ : ∃ u', u' = x' + ((bl m' : Nat) : Int) - 1 := ⟨_, rfl⟩
   by_cases c3 : u = u'
   ·refine Ev.congr (fun k => if_pos (by rw [← hu, ← hu']; exact c3)) ?_
    have emn : mn x x' = min x x' := by unfold mn; split <;> omega
    rw [emn]
    obtain ⟨a, ha⟩ : ∃ a : Nat, a = (x - min x x').toNat := ⟨_, rfl⟩
    obtain ⟨b, hb2⟩ : ∃ b : Nat, b = (x' - min x x').toNat := ⟨_, rfl⟩
    have wa : wrap64 (x - min x x') = (a : Int) := by rw [w64 (by omega) (by omega)]; omega
    have wb : wrap64 (x' - min x x') = (b : Int) := by rw [w64 (by omega) (by omega)]; omega
    rw [wa, wb]
    have zv : Zs (sv neg m) := Zs_bl (by rw [sv_abs]; omega)
    have zv' : Zs (sv neg' m') := Zs_bl (by rw [sv_abs]; omega)
    have ea : sv neg m * 2^a = sv neg (m * 2^a) := by rw [sv_mul]; congr 1
    have eb : sv neg' m' * 2^b = sv neg' (m' * 2^b) := by rw [sv_mul]; congr 1
    have ba : bl (m * 2^a) ≤ 3000000 := by rw [bl_mul _ _ m0]; omega
    have bb : bl (m' * 2^b) ≤ 3000000 := by rw [bl_mul _ _ m0']; omega
    have za : Zs (sv neg (m * 2^a)) := Zs_bl (by rw [sv_abs]; omega)
    have zb : Zs (sv neg' (m' * 2^b)) := Zs_bl (by rw [sv_abs]; omega)
    have zd : Zs (sv neg (m * 2^a) - sv neg' (m' * 2^b)) := by
     have q1 : (sv neg (m * 2^a) - sv neg' (m' * 2^b)).natAbs ≤ m * 2^a + m' * 2^b := by
      have a1 := sv_abs neg (m * 2^a)
      have a2 := sv_abs neg' (m' * 2^b)
      generalize sv neg (m * 2^a) = v1 at *
      generalize sv neg' (m' * 2^b) = v2 at *
      rw [← a1, ← a2]
      clear a1 a2
      omega
     have q2 : bl (m * 2^a + m' * 2^b) ≤ 3000000 + 1 := bl_add ba bb
     exact Zs_bl (Nat.le_trans (bl_mono q1) (by omega))
    have s1 := zshl_ev (sv neg m) a zv (by omega) (by rw [ea]; exact za)
    have s2 := zshl_ev (sv neg' m') b zv' (by omega) (by rw [eb]; exact zb)
    rw [ea] at s1
    rw [eb] at s2
    have cc := zcmp_ev _ _ za zb zd
    have e : Ref.sgn (sv neg (m * 2^a) - sv neg' (m' * 2^b)) = s * szc m x m' x' := by
     subst en
     rw [sgn_mul_cm m0, ← hs]
     unfold szc
     rw [← ha, ← hb2]
    rw [e] at cc
    exact Ev.bind (from5 h.lim (fun e => absurd e m0)) (Ev.bind s1 (Ev.bind (from5 h'.lim (fun e => absurd e m0')) (Ev.bind s2 (Ev.bind cc (Ev.now _)))))
   ·refine Ev.congr (fun k => if_neg (by rw [← hu, ← hu']; exact c3)) ?_
    refine Ev.bind (top5 h) (Ev.bind (zof_any _ (by omega) (by omega)) (Ev.bind (top5 h') (Ev.bind (zof_any _ (by omega) (by omega)) ?_)))
    have cc := zcmp_ev u u' (Zs_small (by omega) (by omega)) (Zs_small (by omega) (by omega)) (Zs_small (by omega) (by omega))
    rw [sgn3] at cc
    rw [← hu, ← hu']
    refine Ev.bind cc ?_
    have e : cmZ u u' = szc m x m' x' := by
     unfold cmZ
     by_cases c4 : u < u'
     ·rw [if_pos c4, szc, cmI_lt (szc_top m0 m0' (by omega))]
     ·have := szc_top m0' m0 (x := x') (x' := x) (by omega)
      rw [Int.min_comm] at this
      rw [if_neg c4, if_pos (by omega), szc, cmI_gt this]
    rw [e, ← hs]
    have r3 : szc m x m' x' = -1 ∨ szc m x m' x' = 0 ∨ szc m x m' x' = 1 := cmI_3 _ _
    have e3 : wrap64 (s * szc m x m' x') = s * szc m x m' x' := by
     have r1' : s = -1 ∨ s = 0 ∨ s = 1 := by rw [hs]; exact r1
     generalize szc m x m' x' = q at *
     clear hs ht
     rcases r1' with rfl | rfl | rfl <;> rcases r3 with rfl | rfl | rfl <;> exact w64 (by decide) (by decide)
    rw [e3]
    exact Ev.now _
 ·refine Ev.congr (fun k => if_neg (by rw [← hs, ← ht]; exact c1)) ?_
  rw [← hs, ← ht]
  refine Ev.bind os (Ev.bind ot (Ev.bind cst ?_))
  have e : cmZ s t = dcm neg m x neg' m' x' := by
   unfold dcm cmZ
   rw [← hs, ← ht]
   by_cases c2 : s < t
   ·rw [if_pos c2, if_pos c2]
   ·rw [if_neg c2, if_neg c2, if_pos (by omega), if_pos (by omega)]
  rw [e]; exact Ev.now _
theorem docCmp_bad {neg neg' : Bool} {l l' : List Int} {x x' : Int} (h : dyB neg l x = false ∨ dyB neg' l' x' = false) : Ev (fun k => gnomonref05_DocCmp.f k neg l x neg' l' x') (0, 2) := by
 have f1 := docForm_ev neg l x
 have f2 := docForm_ev neg' l' x'
 unfold gnomonref05_DocCmp.f
 by_cases c : dyB neg l x = true
 ·have c' : dyB neg' l' x' = false := by
   rcases h with h | h
   ·rw [h] at c; cases c
   ·exact h
  rw [c] at f1
  rw [c'] at f2
  exact Ev.bind f1 (Ev.congr (fun k => if_pos rfl) (Ev.bind f2 (Ev.congr (fun k => if_neg (by decide)) (Ev.now _))))
 ·rw [Bool.not_eq_true] at c
  rw [c] at f1
  exact Ev.bind f1 (Ev.congr (fun k => if_neg (by decide)) (Ev.now _))
theorem rn_decide (f : Int) (neg neg' : Bool) (l l' : List Int) (hw : Wf l) (hw' : Wf l') (x x' : Int) : ∃ (r : Int) (b : Bool) (e : Int), Ev (fun k => round_Decide.f k f neg l x neg' l' x') (r, b, e) ∧ Ev (fun k => gnomonref08_DocDecide.f k f neg l x neg' l' x') (r, b, e) := by
 by_cases hf : f = 32 ∨ f = 64
 rotate_left
 ·have n1 : f ≠ 32 := fun c => hf (.inl c)
  have n2 : f ≠ 64 := fun c => hf (.inr c)
  refine ⟨0, false, 1, ?_, ?_⟩
  ·unfold round_Decide.f
   exact Ev.bind (rn_ev (of_no n1 n2)) (Ev.congr (fun k => if_pos rfl) (Ev.now _))
  ·unfold gnomonref08_DocDecide.f
   exact Ev.bind (rn_ev (rn_no n1 n2)) (Ev.congr (fun k => if_neg (by decide)) (Ev.now _))
 obtain ⟨F, h⟩ : ∃ F, Fm f F := by
  rcases hf with rfl | rfl
  ·exact ⟨fS, tS⟩
  ·exact ⟨fD, tD⟩
 obtain ⟨G, oF⟩ := rn_of h
 by_cases d : dyB neg l x = true ∧ dyB neg' l' x' = true
 rotate_left
 ·have db : dyB neg l x = false ∨ dyB neg' l' x' = false := by
   cases e1 : dyB neg l x
   ·exact .inl rfl
   ·cases e2 : dyB neg' l' x'
    ·exact .inr rfl
    ·exact absurd ⟨e1, e2⟩ d
  refine ⟨0, false, 2, decide_bad h db, ?_⟩
  unfold gnomonref08_DocDecide.f
  exact Ev.bind (rn_ev oF) (Ev.congr (fun k => if_pos rfl) (Ev.bind (docCmp_bad db) (Ev.congr (fun k => if_neg (by decide)) (Ev.now _))))
 obtain ⟨m, rfl, dk⟩ := dk_of hw d.1
 obtain ⟨m', rfl, dk'⟩ := dk_of hw' d.2
 have cm := docCmp dk dk'
 by_cases c : dcm neg m x neg' m' x' ≤ 0
 rotate_left
 ·refine ⟨0, false, 2, decide_gt h dk dk' c, ?_⟩
  unfold gnomonref08_DocDecide.f
  exact Ev.bind (rn_ev oF) (Ev.congr (fun k => if_pos rfl) (Ev.bind cm (Ev.congr (fun k => if_pos rfl) (Ev.congr (fun k => if_pos (by show dcm neg m x neg' m' x' > 0; omega)) (Ev.now _)))))
 have hl := sz_low h
 have hl1 := dk.low
 have hl2 := dk'.low
 obtain ⟨E, hE⟩ : ∃ E, E = min (min x x') (F.low - 1) := ⟨_, rfl⟩
 have ok := decide_ok h dk dk' c (E := E) (by omega) (by omega) (by omega)
 have n1 := nearest_ev h dk (E := E) (by omega) (by omega)
 have n2 := nearest_ev h dk' (E := E) (by omega) (by omega)
 obtain ⟨r1, g1, a1, b1⟩ := rn_nearest f neg (lb m) hw x
 obtain ⟨r2, g2, a2, b2⟩ := rn_nearest f neg' (lb m') hw' x'
 have u1 := ev_uniq a1 n1
 have u2 := ev_uniq a2 n2
 obtain ⟨rfl, rfl⟩ := Prod.mk.inj u1
 obtain ⟨rfl, rfl⟩ := Prod.mk.inj u2
 by_cases e : rnd F neg m x E = rnd F neg' m' x' E
 ·rw [if_pos e] at ok
  refine ⟨_, _, _, ok, ?_⟩
  unfold gnomonref08_DocDecide.f
  exact Ev.bind (rn_ev oF) (Ev.congr (fun k => if_pos rfl) (Ev.bind cm (Ev.congr (fun k => if_pos rfl) (Ev.congr (fun k => if_neg (by show ¬ dcm neg m x neg' m' x' > 0; omega)) (Ev.bind b1 (Ev.bind b2 (Ev.congr (fun k => if_pos (by rw [e])) (Ev.now _))))))))
 ·rw [if_neg e] at ok
  refine ⟨_, _, _, ok, ?_⟩
  unfold gnomonref08_DocDecide.f
  exact Ev.bind (rn_ev oF) (Ev.congr (fun k => if_pos rfl) (Ev.bind cm (Ev.congr (fun k => if_pos rfl) (Ev.congr (fun k => if_neg (by show ¬ dcm neg m x neg' m' x' > 0; omega)) (Ev.bind b1 (Ev.bind b2 (Ev.congr (fun k => if_neg (by show ¬ ((rnd F neg m x E : Nat) : Int) = ((rnd F neg' m' x' E : Nat) : Int); omega)) (Ev.now _))))))))
theorem dy5 {v E : Int} (v0 : v ≠ 0) (hb : bl v.natAbs ≤ 5000) (h1 : -100000 ≤ E) (h2 : E ≤ 0) : ∃ n m x, Dy E n m x v ∧ Ev (fun k => gnomonref07_Dyadic.f k (zn v) (zl v) E) (n, lb m, x) := by
 have n0 : v.natAbs ≠ 0 := by omega
 have sg : Ref.sgn v ≠ 0 := by unfold Ref.sgn; rw [if_neg v0]; split <;> decide
 have zsg := zsign v
 generalize hm : v.natAbs = m at *
 have zlm : zl v = dg m := by unfold zl; rw [hm]
 rw [zlm] at zsg
 have len : (dg m).length ≤ 157 := len_small (by omega)
 obtain ⟨z, ⟨hz1, hz2⟩, ez⟩ := zeros_ev m n0 (by omega)
 obtain ⟨o, ho⟩ := hz1
 have pz : 0 < 2^z := Nat.two_pow_pos z
 have zb : z ≤ 5000 := by
  have : 2^z ≤ m := Nat.le_of_dvd (Nat.pos_of_ne_zero n0) ⟨o, ho⟩
  have h2 := Nat.lt_of_le_of_lt this (bl_lt m)
  have := (Nat.pow_lt_pow_iff_right (by decide : 1 < 2)).1 h2
  omega
 have od : o % 2 = 1 := by
  rcases Nat.mod_two_eq_zero_or_one o with e | e
  ·exfalso
   refine hz2 ⟨o / 2, ?_⟩
   rw [ho, Nat.pow_succ, Nat.mul_assoc]
   congr 1
   omega
  ·exact e
 have q : m / 2^z = o := by rw [ho]; exact Nat.mul_div_cancel_left _ pz
 have bo : bl o ≤ 5000 := by
  have : o ≤ m := by rw [ho]; exact Nat.le_mul_of_pos_left _ pz
  exact Nat.le_trans (bl_mono this) hb
 have leno : (dg o).length ≤ 157 := len_small (by omega)
 have sh := shr_ev m z (by omega) (by omega)
 rw [q] at sh
 have w1 : wrap64 (E + (z : Int)) = E + (z : Int) := w64 (by omega) (by omega)
 have mk := zmk_ev (zn v) o (by omega) (if v < 0 then -(o : Int) else (o : Int)) (by split <;> omega) (fun _ => by unfold zn; split <;> rename_i c <;> (rw [decide_eq_decide]; omega))
 have zno : zn (if v < 0 then -(o : Int) else (o : Int)) = zn v := by unfold zn; split <;> rename_i c <;> (rw [decide_eq_decide]; omega)
 have zlo : zl (if v < 0 then -(o : Int) else (o : Int)) = dg o := by unfold zl; congr 1; split <;> omega
 rw [zno, zlo] at mk
 have tq := to_ev o (by omega)
 rw [lm_lb] at tq
 have l0 : 0 < (dg o).length := by
  rcases Nat.eq_zero_or_pos (dg o).length with e | e
  ·have := dg_len_zero.1 e; omega
  ·exact e
 refine ⟨zn v, o, E + z, ⟨⟨show nl o ≤ 8192 by unfold nl; omega, fun h => by omega, fun _ => od, by omega, by omega⟩, by omega, ?_⟩, ?_⟩
 ·rw [vs_sv, show (E + (z : Int) - E).toNat = z by omega, Nat.mul_comm, ← ho]
  unfold sv zn
  by_cases c : v < 0
  ·rw [decide_eq_true c, if_pos rfl]; omega
  ·rw [decide_eq_false c, if_neg (by decide)]; omega
 ·have tos : Ev (fun k => gnomonref04_To.f k (zn v) (dg o)) (zn v, lb o) := by
   unfold gnomonref04_To.f
   by_cases c : zn v = true
   ·refine Ev.congr (fun k => if_pos c) (Ev.bind tq ?_)
    rw [decide_eq_true (show ((dg o).length : Int) > 0 by omega), c]; exact Ev.now _
   ·refine Ev.congr (fun k => if_neg c) (Ev.bind tq ?_)
    rw [Bool.not_eq_true] at c
    rw [c]; exact Ev.now _
  rw [zlm]
  unfold gnomonref07_Dyadic.f
  refine Ev.bind (rn_ev zsg) (Ev.congr (fun k => if_neg sg) (Ev.bind ez (Ev.bind sh (Ev.bind mk (Ev.bind tos ?_)))))
  rw [w1]
  exact Ev.now _
theorem whole_size {f : Int} {F : Fmt} (h : Fm f F) (G Q : Int) {s : Nat} (hs : s < F.sg) : Ev (fun k => gnomonref07_Whole.f k ((F.sg : Nat) : Int) ((F.man : Nat) : Int) F.low G ((F.inf : Nat) : Int) Q (s : Int)) (zn ((nF F s : Nat) : Int), zl ((nF F s : Nat) : Int)) := by
 have hz := h.sz
 have hm := sz_mg h s
 have hd := sz_dF h hs
 have hl := sz_low h
 have hx := xp_d F s
 have sh : wrap64 (xpF F s - F.low) = ((dF F s : Nat) : Int) := by rw [hx, w64 (by omega) (by omega)]; omega
 have l1 : (dg (mgF F s)).length < 274877906944 := dg_len_bits (k := 64) (by omega) (by decide)
 have l2 : bl (nF F s) ≤ 2101 := bl_nF h hs
 have l3 := len_small (m := nF F s) (k := 66) (by omega)
 have ct := rn_cut h false hs ((F.man : Nat) : Int) F.low G ((F.inf : Nat) : Int) Q
 have w := word_ev ((mgF F s : Nat) : Int) (by omega) (by omega)
 rw [Int.toNat_natCast] at w
 have mk := zmk_ev false (nF F s) (by omega) ((nF F s : Nat) : Int) (by omega) (fun _ => (decide_eq_false (by omega)).symm)
 unfold gnomonref07_Whole.f
 refine Ev.bind (rn_ev ct) (Ev.bind (rn_ev (sz_parts h G Q hs)) (Ev.bind w ?_))
 dsimp only
 rw [sh]
 exact Ev.bind (shl_ev _ _ l1 (by omega)) (Ev.bind mk (Ev.now _))
theorem check_pat {f : Int} {F : Fmt} (h : Fm f F) (neg : Bool) {s : Nat} (hs : s < F.sg) : gnomonref07_Check.f f ((pat F neg s : Nat) : Int) = some 0 := by
 obtain ⟨G, oF⟩ := rn_of h
 have hlt := pat_lt F neg hs
 have hz := h.sz
 generalize pat F neg s = b at *
 have e : Int.tdiv (b : Int) 2 = ((b / 2 : Nat) : Int) := (Int.ofNat_tdiv b 2).symm
 unfold gnomonref07_Check.f
 rw [oF]
 simp only [Option.bind_some, if_true]
 rw [e, wu64 (by omega) (by omega), if_neg (by omega)]
theorem check_bad {f : Int} {F : Fmt} (h : Fm f F) {b : Nat} (hb : b < 18446744073709551616) (h2 : 2 * F.sg ≤ b) : gnomonref07_Check.f f (b : Int) = some 2 := by
 obtain ⟨G, oF⟩ := rn_of h
 have hz := h.sz
 have e : Int.tdiv (b : Int) 2 = ((b / 2 : Nat) : Int) := (Int.ofNat_tdiv b 2).symm
 unfold gnomonref07_Check.f
 rw [oF]
 simp only [Option.bind_some, if_true]
 rw [e, wu64 (by omega) (by omega), if_pos (by omega)]
theorem docClass_pat {f : Int} {F : Fmt} (h : Fm f F) (neg : Bool) {s : Nat} (hs : s < F.sg) : gnomonref07_DocClass.f f ((pat F neg s : Nat) : Int) = some (cl F s, 0) := by
 obtain ⟨G, oF⟩ := rn_of h
 unfold gnomonref07_DocClass.f
 rw [check_pat h neg hs, Option.bind_some, if_pos rfl, oF, Option.bind_some, rn_cut h neg hs, Option.bind_some, rn_cl h _ _ _ hs, Option.bind_some]
theorem docMid_pat {f : Int} {F : Fmt} (h : Fm f F) (neg : Bool) {s : Nat} (hs : s < F.inf) : Ev (fun k => gnomonref07_DocMid.f k f ((pat F neg s : Nat) : Int)) (neg, lb (mdm F s), mdx F s, 0) := by
 obtain ⟨G, oF⟩ := rn_of h
 have hz := h.sz
 have hl := sz_low h
 have hs2 : s < F.sg := by omega
 have fin : gnomonref07_finite.f f ((pat F neg s : Nat) : Int) = some 0 := by
  unfold gnomonref07_finite.f
  rw [check_pat h neg hs2, Option.bind_some, if_pos rfl, oF, Option.bind_some, rn_cut h neg hs2, Option.bind_some, if_neg (by show ¬ ((s : Nat) : Int) ≥ ((F.inf : Nat) : Int); omega)]
 have w1 : IntKind.u64.wrap (((s : Nat) : Int) + 1) = ((s + 1 : Nat) : Int) := by rw [wu64 (by omega) (by omega)]; omega
 have w2 : wrap64 (F.low - 1) = F.low - 1 := w64 (by omega) (by omega)
 have b1 := bl_nF h hs2
 have b2 := bl_nF h (show s + 1 < F.sg by omega)
 have bs : bl (nF F s + nF F (s + 1)) ≤ 2101 + 1 := bl_add b1 b2
 have n1 := nF_step h s
 obtain ⟨n, hn⟩ : ∃ n, n = nF F s + nF F (s + 1) := ⟨_, rfl⟩
 rw [← hn] at bs
 have n0 : n ≠ 0 := by omega
 have ln := len_small (m := n) (k := 66) (by omega)
 have ad := zadd_ev ((nF F s : Nat) : Int) ((nF F (s + 1) : Nat) : Int) (Zs_bl (by rw [Int.natAbs_natCast]; omega)) (Zs_bl (by rw [Int.natAbs_natCast]; omega)) (Zs_bl (by rw [show (((nF F s : Nat) : Int) + ((nF F (s + 1) : Nat) : Int)).natAbs = n by omega]; omega))
 have e1 : ((nF F s : Nat) : Int) + ((nF F (s + 1) : Nat) : Int) = ((n : Nat) : Int) := by omega
 rw [e1] at ad
 have zl1 : zl ((n : Nat) : Int) = dg n := rfl
 have mk := zmk_ev neg n (by omega) (sv neg n) (sv_abs neg n) (fun _ => by
  unfold sv
  cases neg
  ·rw [if_neg (by decide)]; exact (decide_eq_false (by omega)).symm
  ·rw [if_pos rfl]; exact (decide_eq_true (by omega)).symm)
 obtain ⟨n', m', x', d, ed⟩ := dy5 (v := sv neg n) (E := F.low - 1) (fun e => by have := sv_abs neg n; rw [e] at this; exact n0 this.symm) (by rw [sv_abs]; omega) (by omega) (by omega)
 have dm : Dy (F.low - 1) neg (mdm F s) (mdx F s) (sv neg n) := by
  refine ⟨mid_dk h neg hs2, (mdx_rng h hs2).1, ?_⟩
  rw [mid_vs h neg s _ (Int.le_refl _), Int.sub_self, show (0 : Int).toNat = 0 from rfl, Nat.pow_zero, Nat.mul_one, ← hn]
  rfl
 obtain ⟨rfl, rfl, rfl⟩ := d.uniq dm
 unfold gnomonref07_DocMid.f
 refine Ev.bind (rn_ev fin) (Ev.congr (fun k => if_pos rfl) (Ev.bind (rn_ev oF) (Ev.bind (rn_ev (rn_cut h _ hs2 _ _ _ _ _)) ?_)))
 dsimp only
 rw [w1, w2]
 refine Ev.bind (whole_size h _ _ hs2) (Ev.bind (whole_size h _ _ (show s + 1 < F.sg by omega)) (Ev.bind ad ?_))
 dsimp only
 rw [zl1]
 exact Ev.bind mk (Ev.bind ed (Ev.now _))
theorem cell_out {f : Int} {b c e : Int} (h : Ev (fun k => binary_ClassOf.f k f b) (c, e)) (he : e ≠ 0) : Ev (fun k => round_Cell.f k f b) (false, [], 0, false, [], 0, false, e) := by
 unfold round_Cell.f
 exact Ev.bind h (Ev.congr (fun k => if_neg he) (Ev.now _))
theorem docCell_out {f : Int} {b c e : Int} (h : gnomonref07_DocClass.f f b = some (c, e)) (he : e ≠ 0) : Ev (fun k => gnomonref08_DocCell.f k f b) (false, [], 0, false, [], 0, false, e) := by
 unfold gnomonref08_DocCell.f
 exact Ev.bind (rn_ev h) (Ev.congr (fun k => if_neg he) (Ev.now _))
theorem cell_cl {f : Int} {b c : Int} (h : Ev (fun k => binary_ClassOf.f k f b) (c, 0)) (hc : c = 0 ∨ c = 3 ∨ c = 4) : Ev (fun k => round_Cell.f k f b) (false, [], 0, false, [], 0, false, 6) := by
 unfold round_Cell.f
 refine Ev.bind h (Ev.congr (fun k => if_pos rfl) ?_)
 rcases hc with rfl | rfl | rfl
 ·refine Ev.congr (fun k => if_pos rfl) (Ev.step (f := fun _ => some (false, ([] : List Int), (0 : Int), false, ([] : List Int), (0 : Int), false, (6 : Int))) (fun k => ?_) (Ev.now _))
  rw [round_Cell.j0]; exact if_pos rfl
 ·refine Ev.congr (fun k => if_neg (by decide)) (Ev.congr (fun k => if_pos rfl) (Ev.step (f := fun _ => some (false, ([] : List Int), (0 : Int), false, ([] : List Int), (0 : Int), false, (6 : Int))) (fun k => ?_) (Ev.now _)))
  rw [round_Cell.j0]; exact if_pos rfl
 ·refine Ev.congr (fun k => if_neg (by decide)) (Ev.congr (fun k => if_neg (by decide)) (Ev.step (f := fun _ => some (false, ([] : List Int), (0 : Int), false, ([] : List Int), (0 : Int), false, (6 : Int))) (fun k => ?_) (Ev.now _)))
  rw [round_Cell.j0]; exact if_pos rfl
theorem docCell_cl {f : Int} {b c : Int} (h : gnomonref07_DocClass.f f b = some (c, 0)) (hc : c = 0 ∨ c = 3 ∨ c = 4) : Ev (fun k => gnomonref08_DocCell.f k f b) (false, [], 0, false, [], 0, false, 6) := by
 unfold gnomonref08_DocCell.f
 refine Ev.bind (rn_ev h) (Ev.congr (fun k => if_pos rfl) ?_)
 rcases hc with rfl | rfl | rfl
 ·exact Ev.congr (fun k => if_pos rfl) (Ev.now _)
 ·exact Ev.congr (fun k => if_neg (by decide)) (Ev.congr (fun k => if_pos rfl) (Ev.now _))
 ·exact Ev.congr (fun k => if_neg (by decide)) (Ev.congr (fun k => if_neg (by decide)) (Ev.congr (fun k => if_pos rfl) (Ev.now _)))
theorem rn_cell (f : Int) {b : Nat} (hb : b < 18446744073709551616) : ∃ (n : Bool) (l : List Int) (x : Int) (n' : Bool) (l' : List Int) (x' : Int) (y : Bool) (e : Int), l.length ≤ 8192 ∧ l'.length ≤ 8192 ∧ Ev (fun k => round_Cell.f k f (b : Int)) (n, l, x, n', l', x', y, e) ∧ Ev (fun k => gnomonref08_DocCell.f k f (b : Int)) (n, l, x, n', l', x', y, e) := by
 by_cases hf : f = 32 ∨ f = 64
 rotate_left
 ·have n1 : f ≠ 32 := fun c => hf (.inl c)
  have n2 : f ≠ 64 := fun c => hf (.inr c)
  refine ⟨false, [], 0, false, [], 0, false, 1, by decide, by decide, cell_out (c := 0) ?_ (by decide), docCell_out (c := 0) ?_ (by decide)⟩
  ·unfold binary_ClassOf.f binary_take.f binary_shapeOf.f
   rw [if_neg n1, if_neg n2]
   exact Ev.bind (a := (0, 0, 0, 0, false, 0, 1)) (Ev.bind (Ev.now _) (Ev.congr (fun k => if_pos rfl) (Ev.now _))) (Ev.congr (fun k => if_neg (by decide)) (Ev.now _))
  ·unfold gnomonref07_DocClass.f gnomonref07_Check.f
   rw [rn_no n1 n2]
   rfl
 obtain ⟨F, h⟩ : ∃ F, Fm f F := by
  rcases hf with rfl | rfl
  ·exact ⟨fS, tS⟩
  ·exact ⟨fD, tD⟩
 have hz := h.sz
 by_cases c2 : 2 * F.sg ≤ b
 ·refine ⟨false, [], 0, false, [], 0, false, 2, by decide, by decide, cell_out (c := 0) ?_ (by decide), docCell_out (c := 0) ?_ (by decide)⟩
  ·unfold binary_ClassOf.f
   exact Ev.bind (take_bad h b hb c2) (Ev.congr (fun k => if_neg (show ¬ (2 : Int) = 0 by decide)) (Ev.now _))
  ·unfold gnomonref07_DocClass.f
   rw [check_bad h hb c2]; rfl
 obtain ⟨eb, hs⟩ := pat_of (F := F) (b := b) (by omega) (by omega)
 generalize decide (F.sg ≤ b) = neg at eb
 generalize b % F.sg = s at eb hs
 subst eb
 have q1 := classOf_pat h neg hs
 have q2 := docClass_pat h neg hs
 by_cases c3 : cl F s = 0 ∨ cl F s = 3 ∨ cl F s = 4
 ·exact ⟨false, [], 0, false, [], 0, false, 6, by decide, by decide, cell_cl q1 c3, docCell_cl q2 c3⟩
 have h0 : s ≠ 0 := fun e => c3 (.inl ((cl_zero F s).2 e))
 have hi : s < F.inf := by
  refine (cl_fin h s).1 ?_
  have : cl F s = 0 ∨ cl F s = 1 ∨ cl F s = 2 ∨ cl F s = 3 ∨ cl F s = 4 := by
   unfold cl; split <;> (try split) <;> (try split) <;> (try split) <;> simp
  omega
 have k1 := mdm_lim h
 refine ⟨_, _, _, _, _, _, _, _, ?_, ?_, cell_pat h neg h0 hi, ?_⟩
 ·rw [lb_len]; exact k1 _
 ·rw [lb_len]; exact k1 _
 ·have e1 : IntKind.u64.wrap (((pat F neg s : Nat) : Int) - 1) = ((pat F neg (s - 1) : Nat) : Int) := by
   have : pat F neg (s - 1) + 1 = pat F neg s := by
    unfold pat
    cases neg
    ·rw [if_neg (by decide), if_neg (by decide)]; omega
    ·rw [if_pos rfl, if_pos rfl]; omega
   rw [wu64 (by omega) (by omega)]; omega
  have ev : (Int.tmod ((pat F neg s : Nat) : Int) 2 == 0) = decide (s % 2 = 0) := by
   have e2 : Int.tmod ((pat F neg s : Nat) : Int) 2 = ((pat F neg s % 2 : Nat) : Int) := (Int.ofNat_tmod _ 2).symm
   rw [e2, pat_even h]
   by_cases c : s % 2 = 0
   ·rw [c]; rfl
   ·rw [show s % 2 = 1 by omega]; rfl
  unfold gnomonref08_DocCell.f
  refine Ev.bind (rn_ev q2) (Ev.congr (fun k => if_pos rfl) (Ev.congr (fun k => if_neg (fun e => c3 (.inl e))) (Ev.congr (fun k => if_neg (fun e => c3 (.inr (.inl e)))) (Ev.congr (fun k => if_neg (fun e => c3 (.inr (.inr e)))) ?_))))
  rw [e1, ev]
  refine Ev.bind (docMid_pat h neg hi) (Ev.bind (docMid_pat h neg (show s - 1 < F.inf by omega)) ?_)
  cases neg
  ·exact Ev.congr (fun k => if_neg (show ¬ false = true by decide)) (Ev.now _)
  ·exact Ev.congr (fun k => if_pos rfl) (Ev.now _)
theorem same_ev (l : List Int) (hl : l.length < 9223372036854775807) : Ev (fun k => gnomonref01_Same.f k l l) true := by
 unfold gnomonref01_Same.f
 refine Ev.congr (fun k => if_pos rfl) ?_
 have key : ∀ (n i : Nat), i + n = l.length → Ev (fun k => gnomonref01_Same.l0 k l l (i : Int)) true := by
  intro n
  induction n with
  | zero =>
   intro i hi
   exact Ev.step (f := fun _ => some true) (fun k => by rw [gnomonref01_Same.l0, if_neg (by omega)]) (Ev.now _)
  | succ n ih =>
   intro i hi
   refine Ev.step (f := fun k => gnomonref01_Same.l0 k l l ((i + 1 : Nat) : Int)) (fun k => ?_) (ih (i + 1) (by omega))
   rw [gnomonref01_Same.l0, if_pos (by omega), if_pos (by omega), if_pos (by omega), if_pos rfl, w64 (by omega) (by omega), show (i : Int) + 1 = ((i + 1 : Nat) : Int) by omega]
 exact key l.length 0 (by omega)
theorem same5 (n : Bool) (l : List Int) (hl : l.length < 9223372036854775807) (x : Int) : Ev (fun k => gnomonref05_Same.f k n l x n l x) true := by
 unfold gnomonref05_Same.f
 exact Ev.congr (fun k => if_pos (by rw [beq_self_eq_true])) (Ev.congr (fun k => if_pos rfl) (Ev.bind (same_ev l hl) (Ev.now _)))
theorem spans_ev (n : Bool) (l : List Int) (hl : l.length ≤ 8192) (x : Int) (n' : Bool) (l' : List Int) (hl' : l'.length ≤ 8192) (x' : Int) : Ev (fun k => gnomonlaw08_spans.f k n l x n' l' x' n l x n' l' x') true := by
 unfold gnomonlaw08_spans.f
 exact Ev.bind (same5 n l (by omega) x) (Ev.congr (fun k => if_pos rfl) (Ev.bind (same5 n' l' (by omega) x') (Ev.now _)))
end Go.Proofs.YtelfmddcjlocpaaGreatDoor.RnC
