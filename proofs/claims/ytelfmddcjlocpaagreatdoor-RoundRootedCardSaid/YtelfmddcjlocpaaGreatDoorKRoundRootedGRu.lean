/- natdiv.root and Root on naturals of up to 8000 limbs. Condition: math/bits' table is laid. -/
import Derived.Test.YtelfmddcjlocpaaGreatDoorKRoundRootedGRt
set_option linter.unusedVariables false
namespace Go.Proofs.YtelfmddcjlocpaaGreatDoor.GRu
open Go.RowKit Go.Proofs.YtelfmddcjlocpaaGreatDoorW.PrintWords Go.Proofs.YtelfmddcjlocpaaGreatDoorW.PrintMore Go.Proofs.YtelfmddcjlocpaaGreatDoorW.PrintLast Go.Proofs.YtelfmddcjlocpaaGreatDoor.Num Go.Proofs.YtelfmddcjlocpaaGreatDoor.Ref Go.Proofs.YtelfmddcjlocpaaGreatDoor.GBase Go.Proofs.YtelfmddcjlocpaaGreatDoor.GTh Go.Proofs.YtelfmddcjlocpaaGreatDoor.GA Go.Proofs.YtelfmddcjlocpaaGreatDoor.GB Go.Proofs.YtelfmddcjlocpaaGreatDoor.GC Go.Proofs.YtelfmddcjlocpaaGreatDoor.GG Go.Proofs.YtelfmddcjlocpaaGreatDoor.GH Go.Proofs.YtelfmddcjlocpaaGreatDoor.GI Go.Proofs.YtelfmddcjlocpaaGreatDoor.GJ Go.Proofs.YtelfmddcjlocpaaGreatDoor.GL Go.Proofs.YtelfmddcjlocpaaGreatDoor.GM Go.Proofs.YtelfmddcjlocpaaGreatDoor.GN Go.Proofs.YtelfmddcjlocpaaGreatDoor.GO Go.Proofs.YtelfmddcjlocpaaGreatDoor.GP Go.Proofs.YtelfmddcjlocpaaGreatDoor.GQ Go.Proofs.YtelfmddcjlocpaaGreatDoor.GU Go.Proofs.YtelfmddcjlocpaaGreatDoor.GT Go.Proofs.YtelfmddcjlocpaaGreatDoor.GY Go.Proofs.YtelfmddcjlocpaaGreatDoor.GZ Go.Proofs.YtelfmddcjlocpaaGreatDoor.GRt
theorem rt_ints {n : Nat} (h : n ≤ 512000) (k : Nat) (hk : k = n / 4) (t : Nat) (ht : t = (n + 1) / 2) :
  IntKind.i64.wrap ((n : Int) + 1) = (n : Int) + 1 ∧ wrap64 ((n : Int) + 1) = (n : Int) + 1 ∧ ((n : Int) + 1).tdiv 2 = (t : Int) ∧ wrap64 (((n : Int) + 1).tdiv 2) = (t : Int) ∧ wrap64 (t : Int) = (t : Int) ∧ (n : Int).tdiv 4 = (k : Int) ∧ wrap64 ((n : Int).tdiv 4) = (k : Int) ∧ wrap64 (k : Int) = (k : Int) ∧ IntKind.i64.wrap (2 * (k : Int)) = ((2 * k : Nat) : Int) ∧ wrap64 (2 * (k : Int)) = ((2 * k : Nat) : Int) := by
 have e1 : ((n : Int) + 1).tdiv 2 = (t : Int) := by rw [Int.tdiv_eq_ediv_of_nonneg (by omega)]; omega
 have e2 : (n : Int).tdiv 4 = (k : Int) := by rw [Int.tdiv_eq_ediv_of_nonneg (by omega)]; omega
 refine ⟨IntWalk.i64_in _ (by omega), w64 (by omega) (by omega), e1, by rw [e1, w64 (by omega) (by omega)], w64 (by omega) (by omega), e2, by rw [e2, w64 (by omega) (by omega)], w64 (by omega) (by omega), ?_, ?_⟩
 ·rw [IntWalk.i64_in _ (by omega)]; omega
 ·rw [w64 (by omega) (by omega)]; omega
theorem nl_of_bl' {x n : Nat} (h : bl x ≤ 64 * n) : nl x ≤ n := by unfold nl; omega
theorem one_bl {t : Nat} (h : t ≤ 524287) : bl 1 + t ≤ 524288 := by
 have : bl 1 = 1 := by decide
 omega
theorem shl_one (w : World) (X : Option Addr) (cx t : Nat) (hX : Nt w X cx 1) (ht : t ≤ 500000) : Calls Tryz.prog 37 #[.slice X (nl 1) cx, .int .i64 (t : Int)] w fun e w' => ∃ v, e = .returned (.tuple #[v, .int .i64 0]) ∧ Res w w' v (2^t) ∧ Below w.heap.size w w' := by
 have h := shl_res w X cx 1 t hX Nat.one_ne_zero (one_bl (Nat.le_trans ht (by decide)))
 rw [Nat.one_mul] at h
 exact h
def RootC (a : Nat) : Prop := ∀ (w : World) (A : Option Addr) (c : Nat), Nt w A c a → GTab.Tab w → Calls Tryz.prog 97 #[.slice A (nl a) c] w fun e w' => ∃ v, e = .returned v ∧ Res w w' v (isq a) ∧ Below w.heap.size w w'
set_option maxRecDepth 100000 in
set_option maxHeartbeats 1000000 in
theorem root_step (a : Nat) (la : nl a ≤ 8000) (ih : ∀ k, 16 ≤ k → k = bl a / 4 → RootC (a / 2^(2 * k))) : RootC a := by
 intro w A ca hA hT
 have BT := Lib.hid (bits_any w A (nl a) ca a hA (by omega))
 have hb5 := bl_le_limbs a
 by_cases a0 : a = 0
 ·have b0 : bl a = 0 := by rw [a0]; rfl
  rw [b0] at BT
  have HA := Lib.hid a0
  generalize nl a = n at *
  clear hA hT ih la hb5 b0 a0
  go_enter Tryz.func97, Tryz.ntmps97
  go_wp2_with fail
  refine BT.out.mono ?_
  rintro e w1 ⟨rfl, hd⟩
  have D := Lib.hid hd
  clear hd
  go_wp2_with fail
  go_ret
  refine ⟨_, rfl, ?_, D.out⟩
  rw [HA.out]
  exact res_nil _ _ _
 have hF := isq_spec a
 obtain ⟨s, hs⟩ : ∃ s, s = isq a := ⟨_, rfl⟩
 rw [← hs] at hF
 have s0 : 0 < s := by
  rcases Nat.eq_zero_or_pos s with d | d
  ·subst d; have := hF.2; omega
  ·exact d
 have HF := Lib.hid (And.intro hF.1 (And.intro hF.2 s0))
 have hup1 : ∀ t, t = (bl a + 1) / 2 → s ≤ 2^t := fun t ht => by rw [ht]; exact root_le hF.1 (bl_lt a)
 have hup2 : ∀ k u, u = isq (a / 2^(2 * k)) → s ≤ (u + 1) * 2^k := fun k u hu => by
  refine up_ge hF.1 ?_
  rw [hu]
  exact isq_spec _
 have QR := Lib.hid (fun (w' : World) (X : Option Addr) (cx r : Nat) (d : Below w.heap.size w w') (hX : Nt w' X cx r) (lr : nl r ≤ nl a + 1) (r0 : r ≠ 0) => quoRem_any w' A X ca cx a r (Nt.next hA d) hX (by omega) (by omega) r0 (hT.next d))
 have lar : ∀ r, nl r ≤ nl a + 1 → nl (a / r) ≤ nl a + 1 ∧ nl (r + a / r) ≤ nl a + 2 ∧ nl ((r + a / r) / 2) ≤ nl a + 2 := fun r hr => by
  have h1 : nl (a / r) ≤ nl a + 1 := Nat.le_trans (nl_mono (Nat.div_le_self _ _)) (Nat.le_succ _)
  have h2 := nl_sum hr h1
  exact ⟨h1, h2, Nat.le_trans (nl_mono (Nat.div_le_self _ _)) h2⟩
 have AD := Lib.hid (fun (w' : World) (X Q : Option Addr) (cx cq r : Nat) (hX : Nt w' X cx r) (hQ : Nt w' Q cq (a / r)) (lr : nl r ≤ nl a + 1) => add_res w' X Q cx cq r (a / r) hX hQ (by omega) (by have := (lar r lr).1; omega) (by have := (lar r lr).2.1; omega))
 have SH := Lib.hid (fun (w' : World) (Y : Option Addr) (cy r : Nat) (hY : Nt w' Y cy (r + a / r)) (lr : nl r ≤ nl a + 1) => shr_any2 w' Y cy (r + a / r) 1 hY (by have := (lar r lr).2.1; omega) (by decide))
 have CP := Lib.hid (fun (w' : World) (Zz X : Option Addr) (cz cx r : Nat) (hZ : Nt w' Zz cz ((r + a / r) / 2)) (hX : Nt w' X cx r) (lr : nl r ≤ nl a + 1) => cmp_any w' Zz X _ cz _ _ cx _ hZ hX (by have := (lar r lr).2.2; omega) (by omega))
 have W1 := Lib.hid (fun (w' : World) => word_any w' 1 (by decide))
 have HA := Lib.hid hA
 have TT := Lib.hid hT
 obtain ⟨t, ht⟩ : ∃ t, t = (bl a + 1) / 2 := ⟨_, rfl⟩
 obtain ⟨k, hk⟩ : ∃ k, k = bl a / 4 := ⟨_, rfl⟩
 have XX := Lib.hid (rt_ints (n := bl a) (by omega) k hk t ht)
 have bp := bl_pos a0
 have q0 : ((bl a : Int) == 0) = false := by simp; omega
 have q1 : decide ((bl a : Int) = 0) = false := decide_eq_false (by omega)
 have q1' : ¬ bl a = 0 := by omega
 by_cases c64 : bl a ≤ 64
 ·have q2 : decide ((bl a : Int) ≤ 64) = true := decide_eq_true (by omega)
  have q3 : decide (bl a ≤ 64) = true := decide_eq_true c64
  have tl : t ≤ 500000 := by omega
  have S1 := Lib.hid (fun (w' : World) (X : Option Addr) (cx : Nat) (hX : Nt w' X cx 1) => shl_one w' X cx t hX tl)
  obtain ⟨R0, hR0⟩ : ∃ R0, R0 = 2^t := ⟨_, rfl⟩
  have nlR : nl R0 ≤ nl a + 1 := by
   refine nl_of_bl' ?_
   have : bl R0 = t + 1 := by
    rw [hR0]
    have := bl_mul 1 t (by decide)
    rw [Nat.one_mul] at this
    rw [this, show bl 1 = 1 by decide, Nat.add_comm]
   have hbn : bl a ≤ 64 * nl a := hb5
   omega
  have R0p : 0 < R0 := by rw [hR0]; exact Nat.two_pow_pos t
  have HR := Lib.hid (And.intro (show s ≤ R0 by rw [hR0]; exact hup1 t ht) (And.intro R0p nlR))
  rw [← hR0] at S1
  rw [← hs]
  obtain ⟨x1, x2, x3, x4, x5, x6, x7, x8, x9, x10⟩ := XX.out
  clear XX
  generalize nl a = n at *
  generalize bl a = b at *
  clear hA hT ih la hb5 a0 hF hs s0 hup1 hup2 lar ht hk bp c64 hR0 nlR R0p tl
  go_enter Tryz.func97, Tryz.ntmps97
  go_wp2_with fail
  refine BT.out.mono ?_
  rintro e w1 ⟨rfl, hd⟩
  have D := Lib.hid hd
  clear hd
  go_wp2_with fail
  refine (W1.out _).mono ?_
  rintro e w2 ⟨v, rfl, hv, hb⟩
  obtain ⟨⟨X, cx, rfl, nx, -⟩⟩ := hv
  have NX := Lib.hid nx
  have D := Lib.hid (on D.out hb)
  have n1 : nl 1 = 1 := nl_one (by decide) (by decide)
  clear nx hb
  go_wp2_with fail
  refine (S1.out _ X cx NX.out).mono ?_
  rintro e w3 ⟨v, rfl, hv, hb⟩
  have RX := Lib.hid (Res.base hv D.out)
  have D := Lib.hid (on D.out hb)
  clear hv hb NX n1
  go_wp2_with fail
  go_loopg [4] R0 (fun g xv wr => ∃ r : Nat, g = r ∧ s ≤ r ∧ r ≤ R0 ∧ 0 < r ∧ Res w wr xv r ∧ Below w.heap.size w wr)
  case atStart => exact ⟨R0, rfl, HR.out.1, Nat.le_refl _, HR.out.2.1, RX.out, D.out⟩
  case round =>
   obtain ⟨_, rfl, h1, h2, h3, h4, h5⟩ := hrel
   generalize gk = r at *
   obtain ⟨⟨X, cx, rfl, nx, fx⟩⟩ := h4
   have HX := Lib.hid (And.intro h1 (And.intro h2 (And.intro h3 fx)))
   have NX := Lib.hid nx
   have D2 := Lib.hid h5
   have lr : nl r ≤ n + 1 := Nat.le_trans (nl_mono h2) HR.out.2.2
   have LR := Lib.hid lr
   clear h1 h2 h3 nx fx h5 lr D RX
   go_wp2_with fail
   refine (QR.out _ X cx r D2.out NX.out LR.out (Nat.ne_of_gt HX.out.2.2.1)).mono ?_
   rintro e w1 ⟨q, rm, rfl, hq, -, hb⟩
   obtain ⟨⟨Q, cq, rfl, nq, -⟩⟩ := hq
   have NQ := Lib.hid nq
   have D3 := Lib.hid (on D2.out hb)
   have NX := Lib.hid (NX.out.next hb)
   clear nq hb
   go_wp2_with fail
   refine (AD.out _ X Q cx cq r NX.out NQ.out LR.out).mono ?_
   rintro e w2 ⟨y, rfl, hy, hb⟩
   obtain ⟨⟨Y, cy, rfl, ny, -⟩⟩ := hy
   have NY := Lib.hid ny
   have D4 := Lib.hid (on D3.out hb)
   have NX := Lib.hid (NX.out.next hb)
   clear ny hb NQ
   go_wp2_with fail
   refine (SH.out _ Y cy r NY.out LR.out).mono ?_
   rintro e w3 ⟨z, rfl, hz, hb⟩
   obtain ⟨⟨Zz, cz, rfl, nz, fz⟩⟩ := hz
   have NZ := Lib.hid nz
   have D5 := Lib.hid (on D4.out hb)
   have NX := Lib.hid (NX.out.next hb)
   have FZ : Hid (nl ((r + a / r) / 2) = 0 ∨ ∀ G o, Zz = some ⟨G, o, none⟩ → w.heap.size ≤ G) := Lib.hid (by
    rcases fz with f | f
    ·exact .inl f
    ·exact .inr fun G o e => Nat.le_trans D4.out.size (f G o e))
   clear nz hb fz NY
   go_wp2_with fail
   refine (CP.out _ Zz X cz cx r NZ.out NX.out LR.out).mono ?_
   rintro e w4 ⟨rfl, hb⟩
   have NZ := Lib.hid (NZ.out.next hb)
   have NX := Lib.hid (NX.out.next hb)
   have D6 := Lib.hid (on D5.out hb)
   clear hb
   obtain ⟨y, hy⟩ : ∃ y, y = (r + a / r) / 2 := ⟨_, rfl⟩
   have HY := Lib.hid hy
   rw [← hy] at NZ FZ ⊢
   by_cases cc : y < r
   ·have kk := cm_lt cc
    have k1 : decide (((-1 : Int)) ≥ 0) = false := by decide
    have HC := Lib.hid cc
    rw [kk]
    clear cc kk hy
    go_wp2_with fail
    go_roundg y
    case measure => exact HC.out
    case rel => exact ⟨y, rfl, by rw [HY.out]; exact newton_ge HF.out.1 HX.out.2.2.1, Nat.le_trans (Nat.le_of_lt HC.out) HX.out.2.1, Nat.lt_of_lt_of_le HF.out.2.2 (by rw [HY.out]; exact newton_ge HF.out.1 HX.out.2.2.1), ⟨⟨_, _, rfl, NZ.out, FZ.out⟩⟩, D6.out⟩
   ·have hr : r = s := newton_end ⟨HF.out.1, HF.out.2.1⟩ HX.out.2.2.1 HX.out.1 (by rw [← HY.out]; exact cc)
    obtain ⟨k, hk⟩ : ∃ k, k = cm y r := ⟨_, rfl⟩
    have k1 : decide (k ≥ 0) = true := by
     rw [hk]
     rcases Nat.lt_or_ge r y with c | c
     ·rw [cm_gt c]; rfl
     ·rw [cm_eq (Nat.le_antisymm c (Nat.le_of_not_lt cc))]; rfl
    have k2 : decide (0 ≤ k) = true := k1
    rw [← hk]
    have HE := Lib.hid hr
    clear cc hk hr hy
    go_wp2_with fail
    go_ret
    refine ⟨_, rfl, ?_, D6.out⟩
    rw [← HE.out]
    exact ⟨⟨_, _, rfl, NX.out, HX.out.2.2.2⟩⟩
 ·have q2 : decide ((bl a : Int) ≤ 64) = false := decide_eq_false (by omega)
  have q3 : decide (bl a ≤ 64) = false := decide_eq_false c64
  have k16 : 16 ≤ k := by omega
  have hup : bl (a / 2^(2 * k)) ≤ bl a - 2 * k := by
   refine bl_le_of_lt ?_
   rw [Nat.div_lt_iff_lt_mul (Nat.two_pow_pos _), ← Nat.pow_add, show bl a - 2 * k + 2 * k = bl a by omega]
   exact bl_lt a
  obtain ⟨up, hupe⟩ : ∃ up, up = a / 2^(2 * k) := ⟨_, rfl⟩
  have IH := Lib.hid (ih k k16 hk)
  have S0 := Lib.hid (fun (w' : World) (d : Below w.heap.size w w') => shr_any2 w' A ca a (2 * k) (Nt.next hA d) (by omega) (by omega))
  have hu := hup2 k
  rw [← hupe] at IH S0 hup hu
  obtain ⟨u, hu0⟩ : ∃ u, u = isq up := ⟨_, rfl⟩
  have hu2 : bl u ≤ bl up := bl_mono (Nat.le_trans (Nat.le_mul_self u) (by rw [hu0]; exact (isq_spec up).1))
  have hu3 : bl (u + 1) ≤ bl up + 1 := Nat.le_trans (bl_mono (show u + 1 ≤ 2^(bl up) from by have := Nat.lt_of_lt_of_le (bl_lt u) (Nat.pow_le_pow_right (show 0 < 2 by decide) hu2); exact this)) (by
   refine bl_le_of_lt ?_
   rw [Nat.pow_succ]
   have := Nat.two_pow_pos (bl up)
   omega)
  have lu : nl u ≤ 8192 := nl_of_bl' (by omega)
  have lu1 : nl (u + 1) ≤ 8192 := nl_of_bl' (by omega)
  have AD1 := Lib.hid (fun (w' : World) (X Q : Option Addr) (cx cq : Nat) (hX : Nt w' X cx u) (hQ : Nt w' Q cq 1) => add_res w' X Q cx cq u 1 hX hQ lu (by rw [nl_one (by decide) (by decide)]; decide) lu1)
  have S1 := Lib.hid (fun (w' : World) (X : Option Addr) (cx : Nat) (hX : Nt w' X cx (u + 1)) => shl_res w' X cx (u + 1) k hX (Nat.succ_ne_zero u) (by omega))
  obtain ⟨R0, hR0⟩ : ∃ R0, R0 = (u + 1) * 2^k := ⟨_, rfl⟩
  have nlR : nl R0 ≤ nl a + 1 := by
   refine nl_of_bl' ?_
   have : bl R0 = bl (u + 1) + k := by rw [hR0]; exact bl_mul _ _ (Nat.succ_ne_zero u)
   omega
  have R0p : 0 < R0 := by rw [hR0]; exact Nat.mul_pos (Nat.succ_pos u) (Nat.two_pow_pos k)
  have HR := Lib.hid (And.intro (show s ≤ R0 by rw [hR0]; exact hu u hu0) (And.intro R0p nlR))
  rw [← hR0] at S1
  rw [← hs]
  have UE := Lib.hid hu0
  obtain ⟨x1, x2, x3, x4, x5, x6, x7, x8, x9, x10⟩ := XX.out
  clear XX
  generalize nl a = n at *
  generalize bl a = b at *
  clear hA hT ih la hb5 a0 hF hs s0 hup1 hup2 lar ht hk bp c64 hR0 nlR R0p hup hupe hu hu0 hu2 hu3 lu lu1 k16 x3 x4 x5
  go_enter Tryz.func97, Tryz.ntmps97
  go_wp2_with fail
  refine BT.out.mono ?_
  rintro e w1 ⟨rfl, hd⟩
  have D := Lib.hid hd
  clear hd
  go_wp2_with fail
  refine (S0.out _ D.out).mono ?_
  rintro e w2 ⟨v, rfl, hv, hb⟩
  obtain ⟨⟨X, cx, rfl, nx, -⟩⟩ := hv
  have NX := Lib.hid nx
  have D := Lib.hid (on D.out hb)
  clear nx hb
  go_wp2_with fail
  refine (IH.out _ X cx NX.out (TT.out.next D.out)).mono ?_
  rintro e w3 ⟨v, rfl, hv, hb⟩
  rw [← UE.out] at hv
  obtain ⟨⟨Y, cy, rfl, ny, -⟩⟩ := hv
  have NY := Lib.hid ny
  have D := Lib.hid (on D.out hb)
  clear ny hb NX
  go_wp2_with fail
  refine (W1.out _).mono ?_
  rintro e w4 ⟨v, rfl, hv, hb⟩
  obtain ⟨⟨Z1, cz1, rfl, nz, -⟩⟩ := hv
  have NZ := Lib.hid nz
  have NY := Lib.hid (NY.out.next hb)
  have D := Lib.hid (on D.out hb)
  clear nz hb
  go_wp2_with fail
  refine (AD1.out _ Y Z1 cy cz1 NY.out NZ.out).mono ?_
  rintro e w5 ⟨v, rfl, hv, hb⟩
  obtain ⟨⟨X2, cx2, rfl, nx, -⟩⟩ := hv
  have NX2 := Lib.hid nx
  have D := Lib.hid (on D.out hb)
  clear nx hb NY NZ
  go_wp2_with fail
  refine (S1.out _ X2 cx2 NX2.out).mono ?_
  rintro e w6 ⟨v, rfl, hv, hb⟩
  have RX := Lib.hid (Res.base hv D.out)
  have D := Lib.hid (on D.out hb)
  clear hv hb NX2
  go_wp2_with fail
  go_loopg [4] R0 (fun g xv wr => ∃ r : Nat, g = r ∧ s ≤ r ∧ r ≤ R0 ∧ 0 < r ∧ Res w wr xv r ∧ Below w.heap.size w wr)
  case atStart => exact ⟨R0, rfl, HR.out.1, Nat.le_refl _, HR.out.2.1, RX.out, D.out⟩
  case round =>
   obtain ⟨_, rfl, h1, h2, h3, h4, h5⟩ := hrel
   generalize gk = r at *
   obtain ⟨⟨X, cx, rfl, nx, fx⟩⟩ := h4
   have HX := Lib.hid (And.intro h1 (And.intro h2 (And.intro h3 fx)))
   have NX := Lib.hid nx
   have D2 := Lib.hid h5
   have lr : nl r ≤ n + 1 := Nat.le_trans (nl_mono h2) HR.out.2.2
   have LR := Lib.hid lr
   clear h1 h2 h3 nx fx h5 lr D RX
   go_wp2_with fail
   refine (QR.out _ X cx r D2.out NX.out LR.out (Nat.ne_of_gt HX.out.2.2.1)).mono ?_
   rintro e w1 ⟨q, rm, rfl, hq, -, hb⟩
   obtain ⟨⟨Q, cq, rfl, nq, -⟩⟩ := hq
   have NQ := Lib.hid nq
   have D3 := Lib.hid (on D2.out hb)
   have NX := Lib.hid (NX.out.next hb)
   clear nq hb
   go_wp2_with fail
   refine (AD.out _ X Q cx cq r NX.out NQ.out LR.out).mono ?_
   rintro e w2 ⟨y, rfl, hy, hb⟩
   obtain ⟨⟨Y, cy, rfl, ny, -⟩⟩ := hy
   have NY := Lib.hid ny
   have D4 := Lib.hid (on D3.out hb)
   have NX := Lib.hid (NX.out.next hb)
   clear ny hb NQ
   go_wp2_with fail
   refine (SH.out _ Y cy r NY.out LR.out).mono ?_
   rintro e w3 ⟨z, rfl, hz, hb⟩
   obtain ⟨⟨Zz, cz, rfl, nz, fz⟩⟩ := hz
   have NZ := Lib.hid nz
   have D5 := Lib.hid (on D4.out hb)
   have NX := Lib.hid (NX.out.next hb)
   have FZ : Hid (nl ((r + a / r) / 2) = 0 ∨ ∀ G o, Zz = some ⟨G, o, none⟩ → w.heap.size ≤ G) := Lib.hid (by
    rcases fz with f | f
    ·exact .inl f
    ·exact .inr fun G o e => Nat.le_trans D4.out.size (f G o e))
   clear nz hb fz NY
   go_wp2_with fail
   refine (CP.out _ Zz X cz cx r NZ.out NX.out LR.out).mono ?_
   rintro e w4 ⟨rfl, hb⟩
   have NZ := Lib.hid (NZ.out.next hb)
   have NX := Lib.hid (NX.out.next hb)
   have D6 := Lib.hid (on D5.out hb)
   clear hb
   obtain ⟨y, hy⟩ : ∃ y, y = (r + a / r) / 2 := ⟨_, rfl⟩
   have HY := Lib.hid hy
   rw [← hy] at NZ FZ ⊢
   by_cases cc : y < r
   ·have kk := cm_lt cc
    have k1 : decide (((-1 : Int)) ≥ 0) = false := by decide
    have HC := Lib.hid cc
    rw [kk]
    clear cc kk hy
    go_wp2_with fail
    go_roundg y
    case measure => exact HC.out
    case rel => exact ⟨y, rfl, by rw [HY.out]; exact newton_ge HF.out.1 HX.out.2.2.1, Nat.le_trans (Nat.le_of_lt HC.out) HX.out.2.1, Nat.lt_of_lt_of_le HF.out.2.2 (by rw [HY.out]; exact newton_ge HF.out.1 HX.out.2.2.1), ⟨⟨_, _, rfl, NZ.out, FZ.out⟩⟩, D6.out⟩
   ·have hr : r = s := newton_end ⟨HF.out.1, HF.out.2.1⟩ HX.out.2.2.1 HX.out.1 (by rw [← HY.out]; exact cc)
    obtain ⟨k, hk⟩ : ∃ k, k = cm y r := ⟨_, rfl⟩
    have k1 : decide (k ≥ 0) = true := by
     rw [hk]
     rcases Nat.lt_or_ge r y with c | c
     ·rw [cm_gt c]; rfl
     ·rw [cm_eq (Nat.le_antisymm c (Nat.le_of_not_lt cc))]; rfl
    have k2 : decide (0 ≤ k) = true := k1
    rw [← hk]
    have HE := Lib.hid hr
    clear cc hk hr hy
    go_wp2_with fail
    go_ret
    refine ⟨_, rfl, ?_, D6.out⟩
    rw [← HE.out]
    exact ⟨⟨_, _, rfl, NX.out, HX.out.2.2.2⟩⟩
theorem root_all : ∀ (n a : Nat), bl a ≤ n → nl a ≤ 8000 → RootC a := by
 intro n
 induction n using Nat.strongRecOn with
 | _ n ih =>
  intro a h la
  refine root_step a la fun k k16 hk => ?_
  have hup : bl (a / 2^(2 * k)) ≤ bl a - 2 * k := by
   refine bl_le_of_lt ?_
   rw [Nat.div_lt_iff_lt_mul (Nat.two_pow_pos _), ← Nat.pow_add, show bl a - 2 * k + 2 * k = bl a by omega]
   exact bl_lt a
  exact ih (bl a - 2 * k) (by omega) _ hup (Nat.le_trans (nl_mono (Nat.div_le_self _ _)) la)
theorem root_any (w : World) (A : Option Addr) (ca a : Nat) (hA : Nt w A ca a) (la : nl a ≤ 8000) (hT : GTab.Tab w) :
  Calls Tryz.prog 51 #[.slice A (nl a) ca] w fun e w' => ∃ v r, e = .returned (.tuple #[v, r, .int .i64 0]) ∧ Res w w' v (isq a) ∧ Res w w' r (a - isq a * isq a) ∧ Below w.heap.size w w' := by
 have FA := Lib.hid (form_any w A ca a hA (by omega))
 have RT := Lib.hid (root_all _ a (Nat.le_refl _) la w A ca hA hT)
 obtain ⟨s, hs⟩ : ∃ s, s = isq a := ⟨_, rfl⟩
 have hF := isq_spec a
 rw [← hs] at RT hF ⊢
 have ls : nl s ≤ 8192 := Nat.le_trans (nl_mono (Nat.le_trans (Nat.le_mul_self s) hF.1)) (by omega)
 have lss : nl (s * s) ≤ 8192 := Nat.le_trans (nl_mono hF.1) (by omega)
 have SQ := Lib.hid (fun (w' : World) (X : Option Addr) (cx : Nat) (hX : Nt w' X cx s) => sqr_any w' X cx s hX ls lss)
 have SB := Lib.hid (fun (w' : World) (Y : Option Addr) (cy : Nat) (d : Below w.heap.size w w') (hY : Nt w' Y cy (s * s)) => sub_any w' A Y ca cy a (s * s) (Nt.next hA d) hY (by omega) hF.1)
 generalize nl a = n at *
 clear hA la hT hs hF ls lss
 go_enter Tryz.func51, Tryz.ntmps51
 go_wp2_with fail
 refine FA.out.mono ?_
 rintro e w1 ⟨rfl, rfl⟩
 go_wp2_with fail
 refine RT.out.mono ?_
 rintro e w2 ⟨v, rfl, hv, hb⟩
 have RS := Lib.hid hv
 obtain ⟨⟨X, cx, rfl, nx, -⟩⟩ := hv
 have NX := Lib.hid nx
 have D := Lib.hid hb
 clear nx hb
 go_wp2_with fail
 refine (SQ.out _ X cx NX.out).mono ?_
 rintro e w3 ⟨v, rfl, hv, hb⟩
 obtain ⟨⟨Y, cy, rfl, ny, -⟩⟩ := hv
 have NY := Lib.hid ny
 have RS := Lib.hid (RS.out.next hb)
 have D := Lib.hid (on D.out hb)
 clear ny hb NX
 go_wp2_with fail
 refine (SB.out _ Y cy D.out NY.out).mono ?_
 rintro e w4 ⟨v, rfl, ha⟩
 obtain ⟨r4, b4⟩ := res_ans ha
 have R4 := Lib.hid (Res.base r4 D.out)
 have RS := Lib.hid (RS.out.next b4)
 have D := Lib.hid (on D.out b4)
 clear ha r4 b4 NY
 go_wp2_with fail
 go_ret3
 exact ⟨_, v, rfl, RS.out, R4.out, D.out⟩
end Go.Proofs.YtelfmddcjlocpaaGreatDoor.GRu
