/- The error of a sum is a number of the format, that of a product too, and Fma tells it: the plain law of SoftErrors. Plain Lean over the functions. Condition: words. -/
import Derived.Test.YtokoadgahflafaaGreatDoorKSoftErrorsSoftNearestL
import Derived.Test.YtokoadgahflafaaGreatDoorKSoftErrorsRefG
import Derived.Test.YtokoadgahflafaaGreatDoorKSoftErrorsPxZ3
import Derived.Test.YtokoadgahflafaaGreatDoorKSoftErrorsRefH
import Derived.Test.YtokoadgahflafaaGreatDoorKSoftErrorsPxL0
set_option linter.unusedVariables false
namespace Go.Proofs.YtokoadgahflafaaGreatDoor.SoftErrorsL
open Go.RowKit Go.Proofs.YtokoadgahflafaaGreatDoorW.PrintWords Go.Proofs.YtokoadgahflafaaGreatDoorW.PrintMore Go.Proofs.YtokoadgahflafaaGreatDoor.Num Go.Proofs.YtokoadgahflafaaGreatDoor.PLib Go.Proofs.YtokoadgahflafaaGreatDoor.Ref Go.Proofs.YtokoadgahflafaaGreatDoor.GTh Go.Proofs.YtokoadgahflafaaGreatDoor.Given Go.Proofs.YtokoadgahflafaaGreatDoor.Rp1 Go.Proofs.YtokoadgahflafaaGreatDoor.Rp3 Go.Proofs.YtokoadgahflafaaGreatDoor.Rp5 Go.Proofs.YtokoadgahflafaaGreatDoor.Rp7 Go.Proofs.YtokoadgahflafaaGreatDoor.BinLaw Go.Proofs.YtokoadgahflafaaGreatDoor.Fm8 Go.Proofs.YtokoadgahflafaaGreatDoor.Rnd Go.Proofs.YtokoadgahflafaaGreatDoor.Px Go.Proofs.YtokoadgahflafaaGreatDoor.Sf1 Go.Proofs.YtokoadgahflafaaGreatDoor.Sf2 Go.Proofs.YtokoadgahflafaaGreatDoor.Sf3 Go.Proofs.YtokoadgahflafaaGreatDoor.Sf6 Go.Proofs.YtokoadgahflafaaGreatDoor.SoftRootOfSquareL Go.Proofs.YtokoadgahflafaaGreatDoor.SoftOrdersL Go.Proofs.YtokoadgahflafaaGreatDoor.Sfz Go.Proofs.YtokoadgahflafaaGreatDoor.SoftSterbenzL Go.Proofs.YtokoadgahflafaaGreatDoor.SoftNearestL
open Err (ds)
theorem tell_size {f : Int} {F : Fmt} (h : Fm f F) {g : Nat} {v : Vl} (hv : finV v) : tellV F g v < 2 * F.sg ∧ tellV F g v % F.sg = rsz F g (valV v).natAbs ∧ uz F (tellV F g v) = (if valV v < 0 then -((nF F (rsz F g (valV v).natAbs) : Nat) : Int) else ((nF F (rsz F g (valV v).natAbs) : Nat) : Int)) := by
 have hz := h.sz
 cases v with
 | nan => exact hv.elim
 | inf n => exact hv.elim
 | nou n =>
  show pat F n 0 < _ ∧ pat F n 0 % F.sg = rsz F g 0 ∧ uz F (pat F n 0) = (if (0 : Int) < 0 then -((nF F (rsz F g 0) : Nat) : Int) else ((nF F (rsz F g 0) : Nat) : Int))
  rw [pat_mod F n (by omega), uz_pat h n (by omega), rsz_zero h, nF_zero, sv_zero, if_neg (by decide)]
  exact ⟨pat_lt F n (by omega), rfl, rfl⟩
 | num V =>
  have hv : V ≠ 0 := hv
  have hl := (rsz_nst h g V.natAbs).le
  show Rp4.pv F g V < _ ∧ Rp4.pv F g V % F.sg = rsz F g V.natAbs ∧ uz F (Rp4.pv F g V) = (if V < 0 then -((nF F (rsz F g V.natAbs) : Nat) : Int) else ((nF F (rsz F g V.natAbs) : Nat) : Int))
  unfold Rp4.pv
  rw [if_neg hv, pat_mod F _ (by omega), uz_pat h _ (by omega)]
  refine ⟨pat_lt F _ (by omega), rfl, ?_⟩
  by_cases c : V < 0
  ·rw [decide_eq_true c, if_pos c]; rfl
  ·rw [decide_eq_false c, if_neg c]; rfl
theorem tell_rep_g {f : Int} {F : Fmt} (h : Fm f F) {g : Nat} {v : Vl} {w : Nat} (hv : finV v) (hw : w < F.inf) (e : (valV v).natAbs = nF F w * 2^g) : tellV F g v < 2 * F.sg ∧ tellV F g v % F.sg < F.inf ∧ uz F (tellV F g v) * ((2^g : Nat) : Int) = valV v := by
 obtain ⟨t1, t2, t3⟩ := tell_size h (g := g) hv
 have r := rsz_self h (g := g) (show w ≤ F.inf by omega)
 rw [e, r] at t2 t3
 refine ⟨t1, by omega, ?_⟩
 rw [t3]
 have e2 : ((valV v).natAbs : Int) = ((nF F w : Nat) : Int) * ((2^g : Nat) : Int) := by rw [e]; push_cast; rfl
 by_cases c : valV v < 0
 ·rw [if_pos c, Int.neg_mul, ← e2]; omega
 ·rw [if_neg c, ← e2]; omega
theorem size_any {f : Int} {F : Fmt} (h : Fm f F) (G Q : Int) {u : Nat} (hu : u < F.sg) : Ev (fun k => gnomonref07_Size.f k ((F.sg : Nat) : Int) ((F.man : Nat) : Int) F.low G ((F.inf : Nat) : Int) Q (dg (nF F u))) ((u : Nat) : Int) := by
 obtain ⟨h0, -, h2, -, -, hm, -, -, hm1⟩ := fm_hd h
 have hfm := fm_man h
 have hz := h.sz
 have hb := bl_nF h hu
 have hlen := dg_len_bits (n := nF F u) (bl_lt _) (show bl (nF F u) ≤ 8796093022000 by omega)
 unfold gnomonref07_Size.f
 refine Ev.bind (bits_ev (nF F u) (by omega)) ?_
 by_cases c : bl (nF F u) < F.man
 ·refine Ev.congr (fun k => if_pos (by omega)) ?_
  have lt : nF F u < hdF F := by
   rw [hm]
   exact Nat.lt_of_lt_of_le (bl_lt _) (Nat.pow_le_pow_right (by decide) (by omega))
  have e : nF F u = u := by
   have a := (nF_at h (j := 0) (q := nF F u) (by omega) (.inl rfl)).1
   rw [Nat.zero_mul, Nat.zero_add, Nat.pow_zero, Nat.mul_one] at a
   rcases Nat.lt_trichotomy (nF F u) u with q | q | q
   ·have := nF_lt h q; omega
   ·exact q
   ·have := nF_lt h q; omega
  refine Ev.bind (fits_ev (nF F u) (by omega)) ?_
  dsimp only
  rw [e]
  exact Ev.now _
 ·refine Ev.congr (fun k => if_neg (by omega)) ?_
  obtain ⟨j, hj⟩ : ∃ j, j = bl (nF F u) - F.man := ⟨_, rfl⟩
  have w1 : wrap64 (((bl (nF F u) : Nat) : Int) - ((F.man : Nat) : Int)) = ((j : Nat) : Int) := by rw [w64 (by omega) (by omega)]; omega
  rw [w1]
  obtain ⟨q, hq⟩ : ∃ q, q = nF F u / 2^j := ⟨_, rfl⟩
  have n0 : nF F u ≠ 0 := by
   intro e
   rw [e] at c
   have : bl 0 = 0 := rfl
   omega
  have e2m : 2 * hdF F = 2^F.man := by rw [hm, Nat.mul_comm, ← Nat.pow_succ, show (F.man - 1).succ = F.man by omega]
  have q1 : q < 2 * hdF F := by
   rw [hq, e2m, Nat.div_lt_iff_lt_mul (Nat.two_pow_pos j), ← Nat.pow_add]
   exact Nat.lt_of_lt_of_le (bl_lt _) (Nat.pow_le_pow_right (by decide) (by omega))
  have q2 : hdF F ≤ q := by
   have := bl_ge n0
   rw [hq, hm, Nat.le_div_iff_mul_le (Nat.two_pow_pos j), ← Nat.pow_add]
   exact Nat.le_trans (Nat.pow_le_pow_right (by decide) (by omega)) this
  have jd : j ≤ dF F u := by
   have m0 : mgF F u ≠ 0 := fun e => n0 (by unfold nF; rw [e, Nat.zero_mul])
   have a : bl (nF F u) = bl (mgF F u) + dF F u := by unfold nF; exact bl_mul _ _ m0
   have b : bl (mgF F u) ≤ F.man := bl_le_of_lt (by rw [← e2m]; exact Rep.mg_lt1 h u)
   omega
  have dv : 2^j ∣ nF F u := Nat.dvd_trans (Nat.pow_dvd_pow 2 jd) (by unfold nF; exact Nat.dvd_mul_left _ _)
  have eq : q * 2^j = nF F u := by rw [hq]; exact Nat.div_mul_cancel dv
  have at_ := (nF_at h (j := j) (q := q) q1 (.inr q2)).1
  rw [eq] at at_
  have eu : j * hdF F + q = u := by
   rcases Nat.lt_trichotomy (j * hdF F + q) u with k | k | k
   ·have := nF_lt h k; omega
   ·exact k
   ·have := nF_lt h k; omega
  refine Ev.bind (shr_ev (nF F u) j hlen (by omega)) ?_
  rw [← hq]
  refine Ev.bind (fits_ev q (by omega)) (Ev.congr (fun k => if_pos (shl_hd' h).1) ?_)
  have w2 : IntKind.u64.wrap ((j : Nat) : Int) = ((j : Nat) : Int) := wu64 (by omega) (by omega)
  have w3 : wrap64 (((F.man : Nat) : Int) - 1) = ((F.man : Nat) : Int) - 1 := w64 (by omega) (by omega)
  have w4 := shl_hd h (A := j) (by omega)
  dsimp only
  rw [w2, w3, w4, ← Int.natCast_add, wu64 (by omega) (by omega), eu]
  exact Ev.now _
theorem zeros_nil : Ev (fun k => gnomonref01_Zeros.f k (dg 0)) 0 := by
 rw [dg_zero]
 exact Ev.of (fun k => gnomonref01_Zeros.mono _ k) (k := 5) (by decide +kernel)
theorem mul_part {f : Int} {F : Fmt} (h : Fm f F) (G Q : Int) {a b : Nat} (ha : a < 2 * F.sg) (hb : b < 2 * F.sg) (fa : a % F.sg < F.inf) (fb : b % F.sg < F.inf) :
  Ev (fun k => (soft_Mul.f k f (a : Int) (b : Int)).bind fun bt15 => ((soft_Neg.f k f bt15.1).bind fun bt16 => (if bt15.2 = 0 then (if bt16.2 = 0 then (if Int.tmod bt15.1 ((F.sg : Nat) : Int) ≥ ((F.inf : Nat) : Int) then (some true) else ((gnomonlaw09_units.f k ((F.sg : Nat) : Int) ((F.man : Nat) : Int) F.low G ((F.inf : Nat) : Int) Q (a : Int)).bind fun bt17 => ((gnomonlaw09_units.f k ((F.sg : Nat) : Int) ((F.man : Nat) : Int) F.low G ((F.inf : Nat) : Int) Q (b : Int)).bind fun bt18 => ((gnomonref04_Mul.f k bt17.1 bt17.2 bt18.1 bt18.2).bind fun bt19 => ((gnomonlaw09_units.f k ((F.sg : Nat) : Int) ((F.man : Nat) : Int) F.low G ((F.inf : Nat) : Int) Q bt15.1).bind fun bt20 => ((gnomonref04_Shl.f k bt20.1 bt20.2 (wrap64 (-F.low))).bind fun bt21 => ((gnomonref04_Sub.f k bt19.1 bt19.2 bt21.1 bt21.2).bind fun bt22 => ((gnomonref01_Zeros.f k bt19.2).bind fun t23 => (if t23 < wrap64 (-F.low) then ((gnomonref04_Sign.f bt19.1 bt19.2).bind fun t24 => (if t24 = 0 then ((soft_Fma.f k f (a : Int) (b : Int) bt16.1).bind fun bt25 => (if bt25.2 = 0 then (if Int.tmod bt25.1 ((F.sg : Nat) : Int) < ((F.inf : Nat) : Int) then ((gnomonlaw09_units.f k ((F.sg : Nat) : Int) ((F.man : Nat) : Int) F.low G ((F.inf : Nat) : Int) Q bt25.1).bind fun bt26 => ((gnomonref04_Shl.f k bt26.1 bt26.2 (wrap64 (-F.low))).bind fun bt27 => ((gnomonref04_Cmp.f k bt27.1 bt27.2 bt22.1 bt22.2).bind fun t28 => (some (t28 == 0))))) else (some false)) else (some false))) else (some true))) else ((soft_Fma.f k f (a : Int) (b : Int) bt16.1).bind fun bt29 => (if bt29.2 = 0 then (if Int.tmod bt29.1 ((F.sg : Nat) : Int) < ((F.inf : Nat) : Int) then ((gnomonlaw09_units.f k ((F.sg : Nat) : Int) ((F.man : Nat) : Int) F.low G ((F.inf : Nat) : Int) Q bt29.1).bind fun bt30 => ((gnomonref04_Shl.f k bt30.1 bt30.2 (wrap64 (-F.low))).bind fun bt31 => ((gnomonref04_Cmp.f k bt31.1 bt31.2 bt22.1 bt22.2).bind fun t32 => (some (t32 == 0))))) else (some false)) else (some false)))))))))))) else (some false)) else (some false)))) true := by
 have hz := h.sz
 have hl := low_rng h
 have va := fin_rd h fa
 have vb := fin_rd h fb
 obtain ⟨g, hg⟩ : ∃ g, g = (-F.low).toNat := ⟨_, rfl⟩
 have wg : wrap64 (-F.low) = ((g : Nat) : Int) := by rw [w64 (by omega) (by omega)]; omega
 obtain ⟨X, hX⟩ : ∃ X, X = uz F a := ⟨_, rfl⟩
 obtain ⟨Y, hY⟩ : ∃ Y, Y = uz F b := ⟨_, rfl⟩
 have bX : bl X.natAbs ≤ 2101 := by rw [hX]; exact uz_bl h a
 have bY : bl Y.natAbs ≤ 2101 := by rw [hY]; exact uz_bl h b
 have nX : valV (rdB F a) = X := by rw [hX]; exact uz_val h fa
 have nY : valV (rdB F b) = Y := by rw [hY]; exact uz_val h fb
 have aX : X.natAbs = nF F (a % F.sg) := by rw [hX]; unfold uz; rw [sv_abs]
 have aY : Y.natAbs = nF F (b % F.sg) := by rw [hY]; unfold uz; rw [sv_abs]
 have tm := fin_times va.1 vb.1
 have eV : valV (timesV (rdB F a) (rdB F b)) = X * Y := by rw [tm.2, nX, nY]
 obtain ⟨t1, t2, t3⟩ := tell_size h (g := g) tm.1
 rw [eV] at t2 t3
 have mu := mul_ev h ha hb
 rw [← hg] at mu
 obtain ⟨p, hp⟩ : ∃ p, p = tellV F g (timesV (rdB F a) (rdB F b)) := ⟨_, rfl⟩
 rw [← hp] at mu t1 t2 t3
 have ne := neg_ev h t1
 have bg : bl (2^g) ≤ 1075 := Nat.le_trans (bl_le_of_lt (k := g + 1) (Nat.pow_lt_pow_right (by decide) (by omega))) (by omega)
 refine Ev.bind mu (Ev.bind ne (Ev.congr (fun k => if_pos rfl) (Ev.congr (fun k => if_pos rfl) ?_)))
 dsimp only
 rw [show Int.tmod (p : Int) ((F.sg : Nat) : Int) = ((p % F.sg : Nat) : Int) from (Int.ofNat_tmod _ _).symm, wg]
 by_cases fp : F.inf ≤ p % F.sg
 ·exact Ev.congr (fun k => if_pos (by omega)) (Ev.now _)
 refine Ev.congr (fun k => if_neg (by omega)) ?_
 have ua := units_any h G Q ha
 have ub := units_any h G Q hb
 have up := units_any h G Q t1
 rw [← hX] at ua
 rw [← hY] at ub
 obtain ⟨P, hP⟩ : ∃ P, P = uz F p := ⟨_, rfl⟩
 rw [← hP] at up t3
 have bP : bl P.natAbs ≤ 2101 := by rw [hP]; exact uz_bl h p
 have zX : Zs X := Zs_bl (by omega)
 have zY : Zs Y := Zs_bl (by omega)
 have zP : Zs P := Zs_bl (by omega)
 have bXY : bl (X * Y).natAbs ≤ 4202 := by rw [Int.natAbs_mul]; exact bl_mul2 bX bY
 have bPg : bl (P * ((2^g : Nat) : Int)).natAbs ≤ 3176 := by rw [Int.natAbs_mul, Int.natAbs_natCast]; exact bl_mul2 bP bg
 have bL : bl (X * Y - P * ((2^g : Nat) : Int)).natAbs ≤ 4203 := Nat.le_trans (bl_mono (show _ ≤ (X * Y).natAbs + (P * ((2^g : Nat) : Int)).natAbs by omega)) (bl_add bXY (by omega))
 have e1 := zmul_ev X Y zX zY (Zs_bl (by omega))
 have e2 := zshl_ev P g zP (by omega) (by rw [zpow]; exact Zs_bl (by omega))
 rw [zpow] at e2
 have e3 := zsub_ev (X * Y) (P * ((2^g : Nat) : Int)) (Zs_bl (by omega)) (Zs_bl (by omega)) (Zs_bl (by omega))
 refine Ev.bind ua (Ev.bind ub (Ev.bind e1 (Ev.bind up (Ev.bind e2 (Ev.bind e3 ?_)))))
 dsimp only
 obtain ⟨L, hL⟩ : ∃ L, L = X * Y - P * ((2^g : Nat) : Int) := ⟨_, rfl⟩
 rw [← hL] at bL ⊢
 have tail : 2^g ∣ (X * Y).natAbs → Ev (fun k => (soft_Fma.f k f (a : Int) (b : Int) ((tellV F 0 (turnV (rdB F p)) : Nat) : Int)).bind fun bt29 => (if bt29.2 = 0 then (if Int.tmod bt29.1 ((F.sg : Nat) : Int) < ((F.inf : Nat) : Int) then ((gnomonlaw09_units.f k ((F.sg : Nat) : Int) ((F.man : Nat) : Int) F.low G ((F.inf : Nat) : Int) Q bt29.1).bind fun bt30 => ((gnomonref04_Shl.f k bt30.1 bt30.2 ((g : Nat) : Int)).bind fun bt31 => ((gnomonref04_Cmp.f k bt31.1 bt31.2 (zn L) (zl L)).bind fun t32 => (some (t32 == 0))))) else (some false)) else (some false))) true := by
  intro dv
  obtain ⟨Ex, hEx⟩ := dv
  rw [Nat.mul_comm] at hEx
  have rs : rsz F g (X * Y).natAbs = rsz F 0 Ex := by
   rw [hEx]
   by_cases c : Ex = 0
   ·rw [c, Nat.zero_mul, rsz_zero h, rsz_zero h]
   ·have := rsz_scale F 0 Ex g c
    rwa [Nat.zero_add] at this
  rw [rs] at t2 t3
  have hn := rsz_nst h 0 Ex
  obtain ⟨q, hq⟩ : ∃ q, q = rsz F 0 Ex := ⟨_, rfl⟩
  rw [← hq] at t2 t3 hn
  obtain ⟨w, w1, w2⟩ := Err.mul_err h (s := a % F.sg) (t := b % F.sg) (g := g) (N := (X * Y).natAbs) (Ex := Ex) (p := q) (by rw [Int.natAbs_mul, aX, aY]) hEx hn (by omega)
  have aL : L.natAbs = nF F w * 2^g := by
   rw [w2]
   have e0 : ((X * Y).natAbs : Int) = (Ex : Int) * ((2^g : Nat) : Int) := by rw [hEx]; push_cast; rfl
   have pg : (0 : Int) < ((2^g : Nat) : Int) := by have := Nat.two_pow_pos g; omega
   unfold ds
   generalize nF F q = U at *
   have key : ((X * Y).natAbs : Int) - ((U : Nat) : Int) * ((2^g : Nat) : Int) = ((Ex : Int) - (U : Int)) * ((2^g : Nat) : Int) := by rw [e0, Int.sub_mul]
   have : L.natAbs = (((Ex : Int) - (U : Int)) * ((2^g : Nat) : Int)).natAbs := by
    rw [← key, hL, t3]
    by_cases c : X * Y < 0
    ·rw [if_pos c, Int.neg_mul]; omega
    ·rw [if_neg c]; omega
   rw [this, Int.natAbs_mul, Int.natAbs_natCast]
   congr 1
   omega
  have vm : finV (rdB F (tellV F 0 (turnV (rdB F p)))) ∧ valV (rdB F (tellV F 0 (turnV (rdB F p)))) = -P ∧ tellV F 0 (turnV (rdB F p)) < 2 * F.sg := by
   have vp := fin_rd h (b := p) (by omega)
   have e : rdB F (tellV F 0 (turnV (rdB F p))) = turnV (rdB F p) := by
    show rdB F (tellV F 0 (turnV (rdV F _ _))) = turnV (rdV F _ _)
    rw [turnV_rd, rd_tell_rd h]
   rw [e]
   have tu := fin_turn vp.1
   exact ⟨tu.1, by rw [tu.2, hP]; exact congrArg _ vp.2, lt_tell h _ _⟩
  obtain ⟨m, hm⟩ : ∃ m, m = tellV F 0 (turnV (rdB F p)) := ⟨_, rfl⟩
  rw [← hm] at vm ⊢
  have fm := fma_ev h ha hb vm.2.2
  rw [← hg] at fm
  have lf := fin_lift g vm.1
  have pf := fin_plus tm.1 lf.1
  have eL : valV (plusV (timesV (rdB F a) (rdB F b)) (liftV g (rdB F m))) = L := by
   rw [pf.2, eV, lf.2, vm.2.1, hL, Int.neg_mul]; omega
  obtain ⟨r1, r2, r3⟩ := tell_rep_g h (g := g) pf.1 w1 (by rw [eL]; exact aL)
  rw [eL] at r3
  refine Ev.bind fm (Ev.congr (fun k => if_pos rfl) ?_)
  dsimp only
  generalize tellV F g (plusV (timesV (rdB F a) (rdB F b)) (liftV g (rdB F m))) = r at *
  rw [show Int.tmod (r : Int) ((F.sg : Nat) : Int) = ((r % F.sg : Nat) : Int) from (Int.ofNat_tmod _ _).symm]
  refine Ev.congr (fun k => if_pos (by omega)) ?_
  have ur := units_any h G Q r1
  have br := uz_bl h r
  have e5 := zshl_ev (uz F r) g (Zs_bl (by omega)) (by omega) (by rw [zpow, r3]; exact Zs_bl (by omega))
  rw [zpow, r3] at e5
  have cm := zcmp_ev L L (Zs_bl (by omega)) (Zs_bl (by omega)) (by rw [Int.sub_self]; exact Zs_bl (by decide))
  rw [Int.sub_self] at cm
  exact Ev.bind ur (Ev.bind e5 (Ev.bind cm (Ev.now _)))
 by_cases x0 : (X * Y).natAbs = 0
 ·have z : Ev (fun k => gnomonref01_Zeros.f k (zl (X * Y))) 0 := by
   unfold Ref.zl
   rw [x0]
   exact zeros_nil
  refine Ev.bind z (Ev.congr (fun k => if_pos (by omega)) (Ev.bind (ev_eq (zsign (X * Y))) (Ev.congr (fun k => if_pos (by unfold Ref.sgn; rw [if_pos (by omega)])) ?_)))
  exact tail (by rw [x0]; exact Nat.dvd_zero _)
 ·obtain ⟨z, hz1, hz2⟩ := zeros_ev (X * Y).natAbs x0 (by
   have := bl_lt (X * Y).natAbs
   obtain ⟨K, hK⟩ : ∃ K : Nat, K = 200 := ⟨_, rfl⟩
   have q : (X * Y).natAbs < B^K := by
    rw [pw_B]
    exact Nat.lt_of_lt_of_le this (Nat.pow_le_pow_right (by decide) (by omega))
   have := dg_len_le q
   omega)
  refine Ev.bind hz2 ?_
  by_cases c : z < g
  ·exact Ev.congr (fun k => if_pos (by omega)) (Ev.bind (ev_eq (zsign (X * Y))) (Ev.congr (fun k => if_neg (by unfold Ref.sgn; rw [if_neg (by omega)]; split <;> decide)) (Ev.now _)))
  ·refine Ev.congr (fun k => if_neg (by omega)) ?_
   exact tail (Nat.dvd_trans (Nat.pow_dvd_pow 2 (by omega)) hz1.1)
theorem softErrors_lev (sb : Bool) (a0 b0 : Nat) (ha0 : a0 < 18446744073709551616) (hb0 : b0 < 18446744073709551616) : Ev (fun k => gnomonlaw09_SoftErrors.f k sb (a0 : Int) (b0 : Int)) true := by
 obtain ⟨f, F, G, Q, h, K⟩ := form_n sb
 have hz := h.sz
 unfold gnomonlaw09_SoftErrors.f
 refine Ev.bind awake_ev (Ev.congr (fun k => if_pos rfl) (Ev.bind (ev_eq K) (Ev.bind (ev_eq (sizes_f h _ F.low G Q a0 ha0)) (Ev.bind (ev_eq (sizes_f h _ F.low G Q b0 hb0)) ?_))))
 obtain ⟨a, hA⟩ : ∃ a, a = a0 % (2 * F.sg) := ⟨_, rfl⟩
 obtain ⟨b, hB⟩ : ∃ b, b = b0 % (2 * F.sg) := ⟨_, rfl⟩
 have ha : a < 2 * F.sg := by rw [hA]; exact Nat.mod_lt _ (by omega)
 have hb : b < 2 * F.sg := by rw [hB]; exact Nat.mod_lt _ (by omega)
 rw [← hA, ← hB]
 dsimp only
 by_cases fa : a % F.sg < F.inf
 rotate_left
 ·rw [decide_eq_false fa]
  exact Ev.congr (fun k => if_neg (by decide)) (Ev.now _)
 rw [decide_eq_true fa]
 refine Ev.congr (fun k => if_pos rfl) ?_
 by_cases fb : b % F.sg < F.inf
 rotate_left
 ·rw [decide_eq_false fb]
  exact Ev.congr (fun k => if_neg (by decide)) (Ev.now _)
 rw [decide_eq_true fb]
 refine Ev.congr (fun k => if_pos rfl) ?_
 have va := fin_rd h fa
 have vb := fin_rd h fb
 have pl := fin_plus va.1 vb.1
 obtain ⟨X, hX⟩ : ∃ X, X = uz F a := ⟨_, rfl⟩
 obtain ⟨Y, hY⟩ : ∃ Y, Y = uz F b := ⟨_, rfl⟩
 have bX : bl X.natAbs ≤ 2101 := by rw [hX]; exact uz_bl h a
 have bY : bl Y.natAbs ≤ 2101 := by rw [hY]; exact uz_bl h b
 have nX : valV (rdB F a) = X := by rw [hX]; exact uz_val h fa
 have nY : valV (rdB F b) = Y := by rw [hY]; exact uz_val h fb
 have aX : X.natAbs = nF F (a % F.sg) := by rw [hX]; unfold uz; rw [sv_abs]
 have aY : Y.natAbs = nF F (b % F.sg) := by rw [hY]; unfold uz; rw [sv_abs]
 obtain ⟨t1, t2, t3⟩ := tell_size h (g := 0) pl.1
 rw [pl.2, nX, nY] at t2 t3
 have ad := add_ev h ha hb
 obtain ⟨p, hp⟩ : ∃ p, p = tellV F 0 (plusV (rdB F a) (rdB F b)) := ⟨_, rfl⟩
 rw [← hp] at ad t1 t2 t3
 refine Ev.bind ad (Ev.congr (fun k => if_pos rfl) (Ev.congr (fun k => if_neg (by omega)) ?_))
 dsimp only
 rw [show Int.tmod (p : Int) ((F.sg : Nat) : Int) = ((p % F.sg : Nat) : Int) from (Int.ofNat_tmod _ _).symm]
 by_cases fp : p % F.sg < F.inf
 rotate_left
 ·exact Ev.congr (fun k => if_neg (by omega)) (mul_part h G Q ha hb fa fb)
 refine Ev.congr (fun k => if_pos (by omega)) ?_
 have hn := rsz_nst h 0 (X + Y).natAbs
 obtain ⟨u, hu⟩ : ∃ u, u = rsz F 0 (X + Y).natAbs := ⟨_, rfl⟩
 rw [← hu] at t2 t3 hn
 obtain ⟨w, w1, w2⟩ : ∃ w, w < F.inf ∧ nF F w = ds (X + Y).natAbs (nF F u) := by
  rcases Nat.le_total (b % F.sg) (a % F.sg) with q | q
  ·exact Err.sum_err h aX aY q fa hn (by omega)
  ·have hn2 := hn
   rw [Int.add_comm] at hn2
   have := Err.sum_err h aY aX q fb hn2 (by omega)
   rwa [Int.add_comm] at this
 have ua := units_any h G Q ha
 have ub := units_any h G Q hb
 have up := units_any h G Q t1
 rw [← hX] at ua
 rw [← hY] at ub
 obtain ⟨P, hP⟩ : ∃ P, P = uz F p := ⟨_, rfl⟩
 rw [← hP] at up t3
 have bP : bl P.natAbs ≤ 2101 := by rw [hP]; exact uz_bl h p
 have bS : bl (X + Y).natAbs ≤ 2102 := Nat.le_trans (bl_mono (show (X + Y).natAbs ≤ X.natAbs + Y.natAbs by omega)) (bl_add bX bY)
 have bL : bl (X + Y - P).natAbs ≤ 2103 := Nat.le_trans (bl_mono (show (X + Y - P).natAbs ≤ (X + Y).natAbs + P.natAbs by omega)) (bl_add bS (by omega))
 have e1 := zadd_ev X Y (Zs_bl (by omega)) (Zs_bl (by omega)) (Zs_bl (by omega))
 have e2 := zsub_ev (X + Y) P (Zs_bl (by omega)) (Zs_bl (by omega)) (Zs_bl (by omega))
 have aL : (X + Y - P).natAbs = nF F w := by
  rw [w2, t3]
  unfold ds
  generalize nF F u = U at *
  by_cases c : X + Y < 0
  ·rw [if_pos c]; omega
  ·rw [if_neg c]; omega
 have sz := size_any h G Q (u := w) (by omega)
 have uw := units_any h G Q (show w < 2 * F.sg by omega)
 rw [uz_size h (by omega)] at uw
 have aa := abs_any (z := X + Y - P) (Zs_bl (by omega))
 rw [aL] at aa
 have bw := bl_nF h (show w < F.sg by omega)
 have cm := cmpN_ev (x := nF F w) (y := nF F w) (by omega) (by omega)
 rw [Int.sub_self] at cm
 refine Ev.bind ua (Ev.bind ub (Ev.bind e1 (Ev.bind up (Ev.bind e2 ?_))))
 dsimp only
 have el : zl (X + Y - P) = dg (nF F w) := by unfold Ref.zl; rw [aL]
 refine Ev.bind (by rw [el]; exact sz) (Ev.bind uw (Ev.bind aa (Ev.bind cm (Ev.congr (fun k => if_pos rfl) ?_))))
 exact mul_part h G Q ha hb fa fb
theorem softErrors_lrow (a0 : Bool) (a1 a2 : Int) (w1 : (Lit.int .u64 a1).wf = true) (w2 : (Lit.int .u64 a2).wf = true) : Ev (fun k => gnomonlaw09_SoftErrors.f k a0 a1 a2) true := by
 have e1 : IntKind.u64.min = 0 := rfl
 have e2 : IntKind.u64.max = 18446744073709551615 := rfl
 have h1 : IntKind.u64.min ≤ a1 ∧ a1 ≤ IntKind.u64.max := by simpa [Lit.wf] using w1
 have h2 : IntKind.u64.min ≤ a2 ∧ a2 ≤ IntKind.u64.max := by simpa [Lit.wf] using w2
 obtain ⟨a, rfl⟩ : ∃ a : Nat, a1 = (a : Int) := ⟨a1.toNat, by omega⟩
 obtain ⟨b, rfl⟩ : ∃ b : Nat, a2 = (b : Int) := ⟨a2.toNat, by omega⟩
 exact softErrors_lev a0 a b (by omega) (by omega)
end Go.Proofs.YtokoadgahflafaaGreatDoor.SoftErrorsL
