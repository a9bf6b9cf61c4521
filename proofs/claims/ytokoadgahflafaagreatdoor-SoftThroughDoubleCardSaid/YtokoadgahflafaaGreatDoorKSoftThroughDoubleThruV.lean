/- Layer 9's values of binary32 through binary64: an operation there, narrowed, is the operation here. Plain Lean. Condition: formats. -/
import Derived.Test.YtokoadgahflafaaGreatDoorKSoftThroughDoubleSf6
import Derived.Test.YtokoadgahflafaaGreatDoorKSoftThroughDoubleThru
set_option linter.unusedVariables false
namespace Go.Proofs.YtokoadgahflafaaGreatDoor.ThruV
open Go.RowKit Go.Proofs.YtokoadgahflafaaGreatDoorW.PrintWords Go.Proofs.YtokoadgahflafaaGreatDoorW.PrintMore Go.Proofs.YtokoadgahflafaaGreatDoor.Num Go.Proofs.YtokoadgahflafaaGreatDoor.PLib Go.Proofs.YtokoadgahflafaaGreatDoor.Ref Go.Proofs.YtokoadgahflafaaGreatDoor.GTh Go.Proofs.YtokoadgahflafaaGreatDoor.Given Go.Proofs.YtokoadgahflafaaGreatDoor.Rp1 Go.Proofs.YtokoadgahflafaaGreatDoor.Rp2 Go.Proofs.YtokoadgahflafaaGreatDoor.Rp3 Go.Proofs.YtokoadgahflafaaGreatDoor.Rp4 Go.Proofs.YtokoadgahflafaaGreatDoor.Rp5 Go.Proofs.YtokoadgahflafaaGreatDoor.Rp7 Go.Proofs.YtokoadgahflafaaGreatDoor.BinLaw Go.Proofs.YtokoadgahflafaaGreatDoor.Fm8 Go.Proofs.YtokoadgahflafaaGreatDoor.Rnd Go.Proofs.YtokoadgahflafaaGreatDoor.Sq Go.Proofs.YtokoadgahflafaaGreatDoor.Px Go.Proofs.YtokoadgahflafaaGreatDoor.Sf1 Go.Proofs.YtokoadgahflafaaGreatDoor.Sf2 Go.Proofs.YtokoadgahflafaaGreatDoor.Sf3 Go.Proofs.YtokoadgahflafaaGreatDoor.Sf4 Go.Proofs.YtokoadgahflafaaGreatDoor.Sf5 Go.Proofs.YtokoadgahflafaaGreatDoor.Sf6 Go.Proofs.YtokoadgahflafaaGreatDoor.Rep Go.Proofs.YtokoadgahflafaaGreatDoor.Err Go.Proofs.YtokoadgahflafaaGreatDoor.Thru
noncomputable def nar (q : Nat) : Nat := tellV fS KK (rdB fD q)
theorem nar_pat (n : Bool) {s : Nat} (hs : s < fD.inf) (s0 : s ≠ 0) : nar (pat fD n s) = pat fS n (rsz fS KK (nF fD s)) := by
 have hz := tD.sz
 unfold nar
 rw [rdB_pat tD n (by omega)]
 unfold rdV
 rw [if_neg s0, if_pos hs]
 show Rp4.pv fS KK (sv n (nF fD s)) = _
 unfold Rp4.pv
 rw [if_neg (sv_ne (nF_ne tD s0)), sv_abs]
 congr 1
 have hp := nF_ne tD s0
 cases n
 ·exact decide_eq_false (by show ¬ ((nF fD s : Nat) : Int) < 0; omega)
 ·exact decide_eq_true (by show -((nF fD s : Nat) : Int) < 0; omega)
theorem nar_nan : nar fD.qt = fS.qt := by unfold nar; rw [rd_quiet tD]; rfl
theorem nar_inf (n : Bool) : nar (pat fD n fD.inf) = pat fS n fS.inf := by unfold nar; rw [rdB_inf tD]; rfl
theorem nar_nou (n : Bool) : nar (pat fD n 0) = pat fS n 0 := by unfold nar; rw [rdB_nou tD]; rfl
theorem nF_infD : ∃ n, n = 2046 ∧ nF fD fD.inf = 2^52 * 2^n := by
 have e1 : mgF fD fD.inf = 2^52 := by decide
 have e2 : dF fD fD.inf = 2046 := by decide
 exact ⟨_, e2, by unfold nF; rw [e1]⟩
theorem nF_infS : ∃ n, n = 254 ∧ nF fS fS.inf = 2^23 * 2^n := by
 have e1 : mgF fS fS.inf = 2^23 := by decide
 have e2 : dF fS fS.inf = 254 := by decide
 exact ⟨_, e2, by unfold nF; rw [e1]⟩
theorem lim {v c : Nat} (hc : c ≤ 2090) (h : nF fD v ≤ 2^c) : v < fD.inf := by
 obtain ⟨n, hn, e⟩ := nF_infD
 rw [← nF_iff tD, e, ← Nat.pow_add]
 exact Nat.lt_of_le_of_lt h (Nat.pow_lt_pow_right (by decide) (by omega))
noncomputable def CC : Nat := Classical.choose (⟨277, rfl⟩ : ∃ n : Nat, n = 277)
theorem CC_eq : CC = 277 := Classical.choose_spec (⟨277, rfl⟩ : ∃ n : Nat, n = 277)
theorem szS {i : Nat} (hi : i ≤ fS.inf) : nF fS i ≤ 2^CC := by
 have := nF_le tS hi
 obtain ⟨n, hn, e⟩ := nF_infS
 rw [e, ← Nat.pow_add] at this
 exact Nat.le_trans this (Nat.pow_le_pow_right (by decide) (by have := CC_eq; omega))
theorem fin_nq {n d s c : Nat} (a : Nq fD n d s) (hd : 0 < d) (hc : c ≤ 2090) (h : n ≤ 2^c * d) : s < fD.inf := by
 obtain ⟨u, hu⟩ := rep_of' tD c 1 (by rw [hD]; decide)
 rw [Nat.one_mul] at hu
 have := nq_le tD a (u := u) (by rw [hu]; exact h) hd
 have := lim hc (Nat.le_of_eq hu)
 omega
theorem nF_one : nF fD 1 = 1 := by decide
theorem pos_nq {n d s : Nat} (a : Nq fD n d s) (hd : 0 < d) (hs : s < fD.inf) (h : d ≤ n) : s ≠ 0 := by
 have := nq_ge tD a (u := 1) (by rw [nF_one, Nat.one_mul]; exact h) hd hs
 omega
theorem nst1 {F : Fmt} {V s : Nat} (h : Nst F 0 V s) : Nq F V 1 s := nq_of_nst h
theorem num_of {a : Nat} {V : Int} (h : rdB fS a = .num V) : ∃ i, i < fS.inf ∧ V.natAbs = nF fS i ∧ V ≠ 0 := by
 unfold rdB rdV at h
 split at h
 ·cases h
 ·rename_i s0
  split at h
  ·rename_i hs
   refine ⟨_, hs, ?_, ?_⟩
   ·obtain rfl := Vl.num.inj h
    exact sv_abs _ _
   ·obtain rfl := Vl.num.inj h
    exact sv_ne (nF_ne tS s0)
  ·split at h <;> cases h
theorem sum_num {X Y : Int} {i j : Nat} (hX : X.natAbs = nF fS i) (hY : Y.natAbs = nF fS j) (hi : i < fS.inf) (hj : j < fS.inf) (v0 : X + Y ≠ 0) :
  nar (Rp4.pv fD 0 ((X + Y) * ((2^KK : Nat) : Int))) = Rp4.pv fS 0 (X + Y) := by
 have kk := KK_eq
 have cc := CC_eq
 have pk := Nat.two_pow_pos KK
 have va : ((X + Y) * ((2^KK : Nat) : Int)).natAbs = (X + Y).natAbs * 2^KK := by rw [Int.natAbs_mul, Int.natAbs_natCast]
 have sg : decide ((X + Y) * ((2^KK : Nat) : Int) < 0) = decide (X + Y < 0) := by
  refine decide_eq_decide.2 ⟨fun h => ?_, fun h => Int.mul_neg_of_neg_of_pos h (by omega)⟩
  refine Int.lt_of_not_ge fun c => ?_
  have := Int.mul_nonneg c (show (0:Int) ≤ ((2^KK : Nat) : Int) by omega)
  omega
 unfold Rp4.pv
 rw [if_neg (fun e => v0 ((Int.mul_eq_zero.1 e).resolve_right (by omega))), if_neg v0, va, sg]
 obtain ⟨s, hs⟩ : ∃ s, s = rsz fD 0 ((X + Y).natAbs * 2^KK) := ⟨_, rfl⟩
 have ns := rsz_nst tD 0 ((X + Y).natAbs * 2^KK)
 rw [← hs] at ns ⊢
 have b1 := szS (Nat.le_of_lt hi)
 have b2 := szS (Nat.le_of_lt hj)
 have tri : (X + Y).natAbs ≤ X.natAbs + Y.natAbs := Int.natAbs_add_le ..
 have c2 : 2^(CC + 1) = 2 * 2^CC := Nat.pow_succ' ..
 have bV : (X + Y).natAbs ≤ 2^(CC + 1) := by omega
 have bV2 : (X + Y).natAbs * 2^KK ≤ 2^(CC + 1 + KK) * 1 := by rw [Nat.mul_one, Nat.pow_add]; exact Nat.mul_le_mul_right _ bV
 have fin := fin_nq (nst1 ns) (by decide) (by omega) bV2
 have s0 := pos_nq (nst1 ns) (by decide) fin (by have := Nat.mul_le_mul (show 1 ≤ (X + Y).natAbs by omega) pk; omega)
 rw [nar_pat _ fin s0]
 refine congrArg (pat fS _) ?_
 have nr := rsz_nst tS KK (nF fD s)
 have hrep : ∀ v, nF fD v ≤ 2^KK * (2 * (nF fS fS.inf)) → v ≤ fD.inf := fun v hv => by
  refine Nat.le_of_lt (lim (c := KK + (CC + 1)) (by omega) (Nat.le_trans hv ?_))
  rw [Nat.pow_add, c2]
  exact Nat.mul_le_mul_left _ (Nat.mul_le_mul_left _ (szS (Nat.le_refl _)))
 have pr : ∀ t, md fS 0 t * 2^KK = 2 * nF fD s → md fS 0 t * 2^KK * 1 = 2 * ((X + Y).natAbs * 2^KK) := by
  by_cases c : dF fS j ≤ dF fS i
  ·exact sum_pr hX hY c hrep (Nat.le_of_lt hi) (Nat.le_of_lt hj) ns fin
  ·have := sum_pr (X := Y) (Y := X) (s := s) hY hX (by omega) hrep (Nat.le_of_lt hj) (Nat.le_of_lt hi) (by rw [Int.add_comm Y X]; exact ns) fin
   rw [Int.add_comm Y X] at this
   exact this
 have d := dbl (by decide) (nst1 ns) fin nr pr
 have d2 := nst_of_nq (g := 0) (nq_scale pk d)
 exact (rsz_eq tS d2).symm
theorem thru_sum {a b : Nat} (v w : Vl) (hv : v = rdB fS a) (hw : w = rdB fS b ∨ w = turnV (rdB fS b)) : nar (tellV fD 0 (plusV (liftV KK v) (liftV KK w))) = tellV fS 0 (plusV v w) := by
 rw [plus_lift]
 have num : ∀ V, v = .num V → ∃ i, i < fS.inf ∧ V.natAbs = nF fS i ∧ V ≠ 0 := fun V e => num_of (hv ▸ e)
 have num2 : ∀ V, w = .num V → ∃ i, i < fS.inf ∧ V.natAbs = nF fS i ∧ V ≠ 0 := fun V e => by
  rcases hw with hw | hw
  ·exact num_of (hw ▸ e)
  ·cases hb : rdB fS b with
   | num W =>
    rw [hw, hb] at e
    obtain rfl := Vl.num.inj e
    obtain ⟨i, h1, h2, h3⟩ := num_of hb
    exact ⟨i, h1, by rw [Int.natAbs_neg]; exact h2, by omega⟩
   | nan => rw [hw, hb] at e; cases e
   | inf n => rw [hw, hb] at e; cases e
   | nou n => rw [hw, hb] at e; cases e
 have one : ∀ V, (∃ i, i < fS.inf ∧ V.natAbs = nF fS i ∧ V ≠ 0) → nar (tellV fD 0 (liftV KK (.num V))) = tellV fS 0 (.num V) := fun V ⟨i, h1, h2, h3⟩ => by
  have z := sum_num (X := V) (Y := 0) (i := i) (j := 0) h2 (by rw [nF_zero]; rfl) h1 (by decide) (by omega)
  rw [Int.add_zero] at z
  exact z
 have sp : ∀ u, (∀ V, u ≠ .num V) → nar (tellV fD 0 (liftV KK u)) = tellV fS 0 u := fun u hu => by
  cases u with
  | nan => exact nar_nan
  | inf n => exact nar_inf n
  | nou n => exact nar_nou n
  | num V => exact absurd rfl (hu V)
 cases v with
 | nan => exact sp _ (fun V e => by cases e)
 | inf n =>
  cases w with
  | nan => exact sp _ (fun V e => by cases e)
  | inf m =>
   have e : plusV (.inf n) (.inf m) = if n = m then .inf n else .nan := rfl
   rw [e]
   split
   ·exact sp _ (fun V e => by cases e)
   ·exact sp _ (fun V e => by cases e)
  | nou m => exact sp _ (fun V e => by cases e)
  | num W => exact sp _ (fun V e => by cases e)
 | nou n =>
  cases w with
  | nan => exact sp _ (fun V e => by cases e)
  | inf m => exact sp _ (fun V e => by cases e)
  | nou m => exact sp _ (fun V e => by cases e)
  | num W => exact one W (num2 W rfl)
 | num V =>
  cases w with
  | nan => exact sp _ (fun V e => by cases e)
  | inf m => exact sp _ (fun V e => by cases e)
  | nou m => exact one V (num V rfl)
  | num W =>
   have e : plusV (.num V) (.num W) = if V + W = 0 then .nou false else .num (V + W) := rfl
   rw [e]
   by_cases c : V + W = 0
   ·rw [if_pos c]; exact sp _ (fun V e => by cases e)
   ·rw [if_neg c]
    obtain ⟨i, h1, h2, _⟩ := num V rfl
    obtain ⟨j, k1, k2, _⟩ := num2 W rfl
    exact sum_num h2 k2 h1 k1 c
theorem sg_mul (X P : Int) (hP : 0 < P) : decide (X * P < 0) = decide (X < 0) := by
 refine decide_eq_decide.2 ⟨fun h => ?_, fun h => Int.mul_neg_of_neg_of_pos h hP⟩
 refine Int.lt_of_not_ge fun c => ?_
 have := Int.mul_nonneg c (Int.le_of_lt hP)
 omega
theorem thru_mul {a b : Nat} : nar (tellV fD 1074 (timesV (liftV KK (rdB fS a)) (liftV KK (rdB fS b)))) = tellV fS 149 (timesV (rdB fS a) (rdB fS b)) := by
 have kk := KK_eq
 have cc := CC_eq
 have pk := Nat.two_pow_pos KK
 have sgl : ∀ v, sgV (liftV KK v) = sgV v := fun v => by
  cases v with
  | nan => rfl
  | inf n => rfl
  | nou n => rfl
  | num V => exact sg_mul V _ (by omega)
 cases hv : rdB fS a with
 | nan => exact nar_nan
 | inf n =>
  cases hw : rdB fS b with
  | nan => exact nar_nan
  | inf m => exact nar_inf _
  | nou m => exact nar_nan
  | num W =>
   show nar (pat fD (n != sgV (liftV KK (.num W))) fD.inf) = _
   rw [sgl]; exact nar_inf _
 | nou n =>
  cases hw : rdB fS b with
  | nan => exact nar_nan
  | inf m => exact nar_nan
  | nou m => exact nar_nou _
  | num W =>
   show nar (pat fD (n != sgV (liftV KK (.num W))) 0) = _
   rw [sgl]; exact nar_nou _
 | num V =>
  cases hw : rdB fS b with
  | nan => exact nar_nan
  | inf m =>
   show nar (pat fD (sgV (liftV KK (.num V)) != m) fD.inf) = _
   rw [sgl]; exact nar_inf _
  | nou m =>
   show nar (pat fD (sgV (liftV KK (.num V)) != m) 0) = _
   rw [sgl]; exact nar_nou _
  | num W =>
   obtain ⟨i, h1, h2, v0⟩ := num_of hv
   obtain ⟨j, k1, k2, w0⟩ := num_of hw
   obtain ⟨P, hP⟩ : ∃ P : Int, P = ((2^KK : Nat) : Int) := ⟨_, rfl⟩
   show nar (Rp4.pv fD 1074 (V * ((2^KK : Nat) : Int) * (W * ((2^KK : Nat) : Int)))) = Rp4.pv fS 149 (V * W)
   have e : V * ((2^KK : Nat) : Int) * (W * ((2^KK : Nat) : Int)) = V * W * ((2^KK * 2^KK : Nat) : Int) := by rw [Int.natCast_mul]; ac_rfl
   have pkk : 0 < 2^KK * 2^KK := Nat.mul_pos pk pk
   have vw := Int.mul_ne_zero v0 w0
   rw [e]
   unfold Rp4.pv
   rw [if_neg (fun q => vw ((Int.mul_eq_zero.1 q).resolve_right (by omega))), if_neg vw, sg_mul _ _ (by omega), Int.natAbs_mul, Int.natAbs_natCast, Int.natAbs_mul V, h2, k2]
   have mi := mg_lt1 tS i
   have mj := mg_lt1 tS j
   rw [hS] at mi mj
   obtain ⟨G, hG⟩ : ∃ G : Nat, G = 1074 := ⟨_, rfl⟩
   obtain ⟨g, hg⟩ : ∃ g : Nat, g = 149 := ⟨_, rfl⟩
   rw [← hG, ← hg]
   have mm := Nat.mul_lt_mul'' mi mj
   obtain ⟨u, hu⟩ := rep_of' tD (dF fS i + dF fS j + (KK + KK - G)) (mgF fS i * mgF fS j) (by rw [hD]; omega)
   have eq : nF fD u * 2^G = nF fS i * nF fS j * (2^KK * 2^KK) := by
    rw [hu]
    unfold nF
    have : mgF fS i * 2^(dF fS i) * (mgF fS j * 2^(dF fS j)) * (2^KK * 2^KK) = mgF fS i * mgF fS j * 2^(dF fS i + dF fS j + (KK + KK)) := by
     rw [Nat.pow_add 2 (dF fS i + dF fS j), Nat.pow_add 2 (dF fS i), Nat.pow_add 2 KK]; ac_rfl
    rw [this, Nat.mul_assoc, ← Nat.pow_add]
    congr 2
    omega
   have b1 := szS (Nat.le_of_lt h1)
   have b2 := szS (Nat.le_of_lt k1)
   have ub : nF fD u ≤ 2^(CC + CC + (KK + KK)) := by
    have q : nF fD u * 2^G ≤ 2^(CC + CC + (KK + KK)) * 2^G := by
     rw [eq, Nat.pow_add 2 (CC + CC), Nat.pow_add 2 KK]
     refine Nat.le_trans (Nat.mul_le_mul_right _ (Nat.mul_le_mul b1 b2)) ?_
     rw [← Nat.pow_add]
     exact Nat.le_mul_of_pos_right _ (Nat.two_pow_pos _)
    exact Nat.le_of_mul_le_mul_right q (Nat.two_pow_pos _)
   have ub2 : nF fD u ≤ 2^(CC + CC + (KK + KK) - G) := by
    have q : nF fD u * 2^G ≤ 2^(CC + CC + (KK + KK) - G) * 2^G := by
     rw [eq, ← Nat.pow_add 2 (CC + CC + (KK + KK) - G), Nat.sub_add_cancel (by omega), Nat.pow_add 2 (CC + CC), Nat.pow_add 2 KK]
     refine Nat.mul_le_mul_right _ ?_
     refine Nat.le_trans (Nat.mul_le_mul b1 b2) ?_
     rw [← Nat.pow_add]
     exact Nat.le_refl _
    exact Nat.le_of_mul_le_mul_right q (Nat.two_pow_pos _)
   have ui := lim (by omega) ub2
   have u0 : u ≠ 0 := fun q => by
    rw [q, nF_zero, Nat.zero_mul] at eq
    have := Nat.mul_ne_zero (Nat.mul_ne_zero (show nF fS i ≠ 0 by omega) (show nF fS j ≠ 0 by omega)) (show 2^KK * 2^KK ≠ 0 by omega)
    omega
   rw [← eq, rsz_self tD (Nat.le_of_lt ui), nar_pat _ ui u0]
   refine congrArg (pat fS _) ?_
   have n0 := nF_ne tD u0
   have p0 : nF fS i * nF fS j ≠ 0 := Nat.mul_ne_zero (by omega) (by omega)
   have q1 := rsz_scale fS KK (nF fD u) G n0
   have q2 := rsz_scale fS g (nF fS i * nF fS j) (KK + KK) p0
   rw [eq] at q1
   rw [Nat.pow_add, show g + (KK + KK) = KK + G by omega] at q2
   rw [← q1, q2]
theorem quo_sg (V W : Int) : (decide (V * ((2^KK : Nat) : Int) < 0) != decide (W * ((2^KK : Nat) : Int) < 0)) = (decide (V < 0) != decide (W < 0)) := by
 have pk := Nat.two_pow_pos KK
 rw [sg_mul _ _ (by omega), sg_mul _ _ (by omega)]
theorem thru_div {a b p q : Nat} (hp : QuoR fS (rdB fS a) (rdB fS b) p) (hq : QuoR fD (liftV KK (rdB fS a)) (liftV KK (rdB fS b)) q) : nar q = p := by
 have kk := KK_eq
 have cc := CC_eq
 have pk := Nat.two_pow_pos KK
 have sgl : ∀ v, sgV (liftV KK v) = sgV v := fun v => by
  cases v with
  | nan => rfl
  | inf n => rfl
  | nou n => rfl
  | num V => exact sg_mul V _ (by omega)
 cases hv : rdB fS a with
 | nan => rw [hv] at hp hq; cases hw : rdB fS b <;> rw [hw] at hp hq <;> rw [show q = fD.qt from hq, show p = fS.qt from hp] <;> exact nar_nan
 | inf n =>
  rw [hv] at hp hq
  cases hw : rdB fS b with
  | nan => rw [hw] at hp hq; rw [show q = fD.qt from hq, show p = fS.qt from hp]; exact nar_nan
  | inf m => rw [hw] at hp hq; rw [show q = fD.qt from hq, show p = fS.qt from hp]; exact nar_nan
  | nou m => rw [hw] at hp hq; rw [show q = pat fD (n != m) fD.inf from hq, show p = pat fS (n != m) fS.inf from hp]; exact nar_inf _
  | num W => rw [hw] at hp hq; rw [show q = pat fD (n != sgV (liftV KK (.num W))) fD.inf from hq, show p = pat fS (n != sgV (.num W)) fS.inf from hp, sgl]; exact nar_inf _
 | nou n =>
  rw [hv] at hp hq
  cases hw : rdB fS b with
  | nan => rw [hw] at hp hq; rw [show q = fD.qt from hq, show p = fS.qt from hp]; exact nar_nan
  | inf m => rw [hw] at hp hq; rw [show q = pat fD (n != m) 0 from hq, show p = pat fS (n != m) 0 from hp]; exact nar_nou _
  | nou m => rw [hw] at hp hq; rw [show q = fD.qt from hq, show p = fS.qt from hp]; exact nar_nan
  | num W => rw [hw] at hp hq; rw [show q = pat fD (n != sgV (liftV KK (.num W))) 0 from hq, show p = pat fS (n != sgV (.num W)) 0 from hp, sgl]; exact nar_nou _
 | num V =>
  obtain ⟨i, h1, h2, v0⟩ := num_of hv
  rw [hv] at hp hq
  cases hw : rdB fS b with
  | nan => rw [hw] at hp hq; rw [show q = fD.qt from hq, show p = fS.qt from hp]; exact nar_nan
  | inf m => rw [hw] at hp hq; rw [show q = pat fD (sgV (liftV KK (.num V)) != m) 0 from hq, show p = pat fS (sgV (.num V) != m) 0 from hp, sgl]; exact nar_nou _
  | nou m => rw [hw] at hp hq; rw [show q = pat fD (sgV (liftV KK (.num V)) != m) fD.inf from hq, show p = pat fS (sgV (.num V) != m) fS.inf from hp, sgl]; exact nar_inf _
  | num W =>
   obtain ⟨j, k1, k2, w0⟩ := num_of hw
   rw [hw] at hp hq
   obtain ⟨s', ns', rfl⟩ := hp
   obtain ⟨s, ns, rfl⟩ := hq
   rw [quo_sg]
   obtain ⟨G, hG⟩ : ∃ G : Nat, G = (-fD.low).toNat := ⟨_, rfl⟩
   obtain ⟨g, hg⟩ : ∃ g : Nat, g = (-fS.low).toNat := ⟨_, rfl⟩
   have eG : G = 1074 := by rw [hG]; decide
   have eg : g = 149 := by rw [hg]; decide
   rw [← hG, Int.natAbs_mul, Int.natAbs_mul, Int.natAbs_natCast, h2, k2] at ns
   rw [← hg, h2, k2] at ns'
   clear hG hg
   have mi := mg_lt1 tS i
   have mj := mg_lt1 tS j
   rw [hS] at mi mj
   have x0 : 1 ≤ nF fS i := by omega
   have y0 : 1 ≤ nF fS j := by omega
   have b1 := szS (Nat.le_of_lt h1)
   have b2 := szS (Nat.le_of_lt k1)
   have dp : 0 < nF fS j * 2^KK := Nat.mul_pos y0 pk
   have fin := fin_nq ns dp (c := CC + G) (by omega) (by
    have : nF fS i * 2^KK * 2^G ≤ 2^CC * 2^KK * 2^G := Nat.mul_le_mul_right _ (Nat.mul_le_mul_right _ b1)
    refine Nat.le_trans this ?_
    rw [Nat.pow_add, Nat.mul_right_comm]
    exact Nat.mul_le_mul_left _ (Nat.le_mul_of_pos_left _ y0))
   have s0 := pos_nq ns dp fin (by
    have t1 : nF fS j * 2^KK ≤ 2^CC * 2^KK := Nat.mul_le_mul_right _ b2
    have t2 : 1 * 2^KK * 2^G ≤ nF fS i * 2^KK * 2^G := Nat.mul_le_mul_right _ (Nat.mul_le_mul_right _ x0)
    refine Nat.le_trans t1 (Nat.le_trans ?_ t2)
    rw [Nat.one_mul, Nat.mul_comm]
    exact Nat.mul_le_mul_left _ (Nat.pow_le_pow_right (by decide) (by omega)))
   rw [nar_pat _ fin s0]
   refine congrArg (pat fS _) ?_
   have nr := rsz_nst tS KK (nF fD s)
   have pr := quo_pr (i := dF fS i + KK + G) (j := dF fS j + KK) (mx := mgF fS i) (my := mgF fS j) ns fin (by unfold nF; rw [Nat.pow_add, Nat.pow_add]; ac_rfl) (by unfold nF; rw [Nat.pow_add]; ac_rfl) (by omega) (by omega)
   have d := dbl dp ns fin nr pr
   refine nq_uniq tS y0 ?_ ns'
   refine nq_scale (c := 2^(KK + KK)) (Nat.two_pow_pos _) ?_
   have e1 : nF fS i * 2^g * 2^(KK + KK) = nF fS i * 2^KK * 2^G := by rw [Nat.mul_assoc, Nat.mul_assoc, ← Nat.pow_add, ← Nat.pow_add]; congr 2; omega
   have e2 : nF fS j * 2^(KK + KK) = nF fS j * 2^KK * 2^KK := by rw [Nat.pow_add, Nat.mul_assoc]
   rw [e1, e2]
   exact d
theorem fin_nr {n d s c : Nat} (a : Nr fD n d s) (hd : 0 < d) (hc : c ≤ 2090) (h : n ≤ 2^c * 2^c * d) : s < fD.inf := by
 obtain ⟨u, hu⟩ := rep_of' tD c 1 (by rw [hD]; decide)
 rw [Nat.one_mul] at hu
 have := nr_le tD a (u := u) (by rw [hu]; exact h) hd
 have := lim hc (Nat.le_of_eq hu)
 omega
theorem thru_root {a p q : Nat} (hp : RootR fS (rdB fS a) p) (hq : RootR fD (liftV KK (rdB fS a)) q) : nar q = p := by
 have kk := KK_eq
 have cc := CC_eq
 have pk := Nat.two_pow_pos KK
 cases hv : rdB fS a with
 | nan => rw [hv] at hp hq; rw [show q = fD.qt from hq, show p = fS.qt from hp]; exact nar_nan
 | inf n =>
  rw [hv] at hp hq
  rw [show q = if n then fD.qt else fD.inf from hq, show p = if n then fS.qt else fS.inf from hp]
  cases n
  ·exact nar_inf false
  ·exact nar_nan
 | nou n => rw [hv] at hp hq; rw [show q = pat fD n 0 from hq, show p = pat fS n 0 from hp]; exact nar_nou _
 | num V =>
  obtain ⟨i, h1, h2, v0⟩ := num_of hv
  rw [hv] at hp hq
  have sgn := sg_mul V ((2^KK : Nat) : Int) (by omega)
  have sgn2 := decide_eq_decide.1 sgn
  rcases hp with ⟨c, rfl⟩ | ⟨c, s', ns', rfl⟩
  ·rcases hq with ⟨d, rfl⟩ | ⟨d, _⟩
   ·exact nar_nan
   ·have := sgn2.2 c; omega
  ·rcases hq with ⟨d, rfl⟩ | ⟨d, s, ns, eqs⟩
   ·have := sgn2.1 d; omega
   ·rw [eqs]
    obtain ⟨G, hG⟩ : ∃ G : Nat, G = (-fD.low).toNat := ⟨_, rfl⟩
    obtain ⟨g, hg⟩ : ∃ g : Nat, g = (-fS.low).toNat := ⟨_, rfl⟩
    have eG : G = 1074 := by rw [hG]; decide
    have eg : g = 149 := by rw [hg]; decide
    rw [← hG, Int.natAbs_mul, Int.natAbs_natCast, h2] at ns
    rw [← hg, h2] at ns'
    clear hG hg
    have mi := mg_lt1 tS i
    rw [hS] at mi
    have x0 : 1 ≤ nF fS i := by omega
    have b1 := szS (Nat.le_of_lt h1)
    obtain ⟨cN, hcN⟩ : ∃ n, n = 1139 := ⟨_, rfl⟩
    have up : nF fS i * 2^KK * 2^G ≤ 2^cN * 2^cN * 1 := by
     refine Nat.le_trans (Nat.mul_le_mul_right _ (Nat.mul_le_mul_right _ b1)) ?_
     rw [Nat.mul_one, ← Nat.pow_add, ← Nat.pow_add, ← Nat.pow_add]
     exact Nat.pow_le_pow_right (by decide) (by omega)
    have fin := fin_nr ns (by decide) (by omega) up
    have s0 : s ≠ 0 := by
     have q1 : 1 ≤ nF fS i * 2^KK * 2^G := Nat.mul_pos (Nat.mul_pos x0 pk) (Nat.two_pow_pos _)
     have := nr_ge tD ns (u := 1) (by rw [nF_one]; omega) (by decide) fin
     omega
    have z := nar_pat false fin s0
    rw [show pat fD false s = s from rfl] at z
    rw [z, show ∀ x, pat fS false x = x from fun _ => rfl]
    have nr := rsz_nst tS KK (nF fD s)
    have pr := root_pr (i := dF fS i + KK + G) (j := 0) (mx := mgF fS i) ns fin (by unfold nF; rw [Nat.pow_add, Nat.pow_add]; ac_rfl) rfl (by omega)
    have d := dblR (by decide) ns fin nr pr
    refine nr_uniq tS (by decide) ?_ ns'
    refine nr_cross (by rw [Nat.one_mul]; exact Nat.mul_pos pk pk) (by decide) ?_ d
    rw [Nat.mul_one, Nat.one_mul, Nat.mul_assoc, Nat.mul_assoc, ← Nat.pow_add, ← Nat.pow_add, ← Nat.pow_add]
    congr 2
    omega
end Go.Proofs.YtokoadgahflafaaGreatDoor.ThruV
