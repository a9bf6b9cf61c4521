/- Errors of rounded sums and products are numbers of the format. Plain Lean. Conditions: formats. What the reference's comparison of scaled numbers and its rounding to binary64 answer: the rung of the exact number, rounded to nearest, ties to even. Plain Lean over the printed functions. Conditions: exponents within 2^30, numbers of less than 2^37 digits. What the reference's bits, its lowest bit that is set, and its question of shortness answer, told by numbers. Plain Lean over the printed functions. Conditions: numbers of less than 2^38 digits. -/
import Derived.Test.YtokoadgahflafaaGreatDoorKSoftErrorsSoftNearestL
import Derived.Test.YtokoadgahflafaaGreatDoorKSoftErrorsRefH
import Derived.Test.YtokoadgahflafaaGreatDoorKSoftErrorsPxL0
section
set_option linter.unusedVariables false
namespace Go.Proofs.YtokoadgahflafaaGreatDoor.Err
open Go.Proofs.YtokoadgahflafaaGreatDoor.BinLaw Go.Proofs.YtokoadgahflafaaGreatDoor.Ref Go.Proofs.YtokoadgahflafaaGreatDoor.Fm8 Go.Proofs.YtokoadgahflafaaGreatDoor.Rnd Go.Proofs.YtokoadgahflafaaGreatDoor.Rep
def ds (a b : Nat) : Nat := (a - b) + (b - a)
theorem near {f : Int} {F : Fmt} (h : Fm f F) {V u : Nat} (hn : Nst F 0 V u) (hu : u < F.inf) (z : Nat) : ds V (nF F u) ≤ ds V (nF F z) := by
 have md0 : ∀ s, md F 0 s = nF F s + nF F (s + 1) := fun s => by unfold md; rw [Nat.pow_zero, Nat.mul_one]
 have up := hn.up hu
 rw [md0] at up
 unfold ds
 rcases Nat.lt_trichotomy z u with c | c | c
 ·obtain ⟨t, rfl⟩ : ∃ t, u = t + 1 := ⟨u - 1, by omega⟩
  have dn := hn.dn t rfl
  rw [md0] at dn
  have a := nF_le h (show z ≤ t by omega)
  have b := nF_step h t
  omega
 ·rw [c]; exact Nat.le_refl _
 ·have a := nF_le h (show u + 1 ≤ z by omega)
  have b := nF_step h u
  omega
theorem exact_of {f : Int} {F : Fmt} (h : Fm f F) {V u v : Nat} (hn : Nst F 0 V u) (hv : v ≤ F.inf) (e : nF F v = V) : u = v := by
 have r := rsz_self h (g := 0) hv
 rw [Nat.pow_zero, Nat.mul_one, e] at r
 rw [← rsz_eq h hn]; exact r
theorem ge_of {f : Int} {F : Fmt} (h : Fm f F) {V u t : Nat} (hn : Nst F 0 V u) (ht : t ≤ F.inf) (e : nF F t ≤ V) : t ≤ u := by
 have r := rsz_mono h (g := 0) e
 have r2 := rsz_self h (g := 0) ht
 rw [Nat.pow_zero, Nat.mul_one] at r2
 rw [r2, rsz_eq h hn] at r
 exact r
theorem sum_err {f : Int} {F : Fmt} (h : Fm f F) {X Y : Int} {s t u : Nat} (hX : X.natAbs = nF F s) (hY : Y.natAbs = nF F t) (hst : t ≤ s) (hs : s < F.inf) (hn : Nst F 0 (X + Y).natAbs u) (hu : u < F.inf) :
  ∃ w, w < F.inf ∧ nF F w = ds (X + Y).natAbs (nF F u) := by
 have dX : 2^(dF F t) ∣ X.natAbs := by rw [hX]; exact dvd_nF hst
 have dY : 2^(dF F t) ∣ Y.natAbs := by rw [hY]; exact dvd_nF (Nat.le_refl t)
 have dV : 2^(dF F t) ∣ (X + Y).natAbs := by
  have kX : ((2^(dF F t) : Nat) : Int) ∣ X := Int.natAbs_dvd_natAbs.1 (by rw [Int.natAbs_natCast]; exact dX)
  have kY : ((2^(dF F t) : Nat) : Int) ∣ Y := Int.natAbs_dvd_natAbs.1 (by rw [Int.natAbs_natCast]; exact dY)
  have := Int.natAbs_dvd_natAbs.2 (Int.dvd_add kX kY)
  rwa [Int.natAbs_natCast] at this
 have mono := nF_le h hst
 by_cases c : (X + Y).natAbs ≤ nF F t
 ·obtain ⟨v, v1, v2⟩ := rep_le h c dV
  have e := exact_of h hn (show v ≤ F.inf by omega) v2
  exact ⟨0, by omega, by rw [nF_zero, e, v2]; unfold ds; omega⟩
 ·have ut := ge_of h hn (show t ≤ F.inf by omega) (by omega)
  have du : 2^(dF F t) ∣ nF F u := dvd_nF ut
  have dd : 2^(dF F t) ∣ ds (X + Y).natAbs (nF F u) := Nat.dvd_add (Nat.dvd_sub dV du) (Nat.dvd_sub du dV)
  have le : ds (X + Y).natAbs (nF F u) ≤ nF F t := by
   have n1 := near h hn hu s
   have n2 := near h hn hu 0
   rw [nF_zero] at n2
   rw [← hX] at n1 mono
   rw [← hY] at mono ⊢
   unfold ds at *
   generalize nF F u = U at *
   omega
  obtain ⟨w, w1, w2⟩ := rep_le h le dd
  exact ⟨w, by omega, w2⟩
theorem rep_of' {f : Int} {F : Fmt} (h : Fm f F) (k q : Nat) (hq : q ≤ 2 * hdF F) : ∃ u, nF F u = q * 2^k := by
 by_cases c : q < 2 * hdF F
 ·exact rep_of h k q c
 ·have h0 := (fm_hd h).1
  obtain ⟨u, hu⟩ := rep_of h (k + 1) (hdF F) (by omega)
  refine ⟨u, ?_⟩
  rw [hu, show q = hdF F * 2 by omega, Nat.pow_succ, Nat.mul_assoc, Nat.mul_comm 2]
theorem mul_err {f : Int} {F : Fmt} (h : Fm f F) {s t g N Ex p : Nat} (hN : N = nF F s * nF F t) (hE : N = Ex * 2^g) (hn : Nst F 0 Ex p) (hp : p < F.inf) : ∃ w, w < F.inf ∧ nF F w = ds Ex (nF F p) := by
 obtain ⟨h0, -, -, -, -, hm, -, -, hm1⟩ := fm_hd h
 have md0 : ∀ s, md F 0 s = nF F s + nF F (s + 1) := fun s => by unfold md; rw [Nat.pow_zero, Nat.mul_one]
 have up := hn.up hp
 rw [md0, nF_next h] at up
 obtain ⟨d, hd⟩ : ∃ d, d = dF F p := ⟨_, rfl⟩
 rw [← hd] at up
 have dn : 2 * nF F p ≤ 2 * Ex + 2^d := by
  rcases Nat.eq_zero_or_pos p with c | c
  ·rw [c, nF_zero, Nat.mul_zero]; exact Nat.zero_le _
  ·obtain ⟨t, rfl⟩ : ∃ t, p = t + 1 := ⟨p - 1, by omega⟩
   have a := hn.dn t rfl
   rw [md0, nF_next h] at a
   rw [nF_next h]
   have b : 2^(dF F t) ≤ 2^d := Nat.pow_le_pow_right (by decide) (by rw [hd]; exact dF_mono (by omega))
   omega
 have L2 : 2 * ds Ex (nF F p) ≤ 2^d := by
  unfold ds
  generalize 2^d = D at *
  generalize nF F p = P at *
  omega
 obtain ⟨c, k, hc, hck⟩ : ∃ c k, c < 4 * (hdF F * hdF F) ∧ Ex = c * 2^k := by
  have a1 := mg_lt1 h s
  have a2 := mg_lt1 h t
  have a3 : mgF F s * mgF F t < 4 * (hdF F * hdF F) := by
   have : mgF F s * mgF F t < (2 * hdF F) * (2 * hdF F) := Nat.lt_of_le_of_lt (Nat.mul_le_mul_left _ (Nat.le_of_lt a2)) (Nat.mul_lt_mul_of_pos_right a1 (by omega))
   have e : (2 * hdF F) * (2 * hdF F) = 4 * (hdF F * hdF F) := by rw [show (4 : Nat) = 2 * 2 from rfl]; ac_rfl
   omega
  have e : Ex * 2^g = mgF F s * mgF F t * 2^(dF F s + dF F t) := by
   rw [← hE, hN]
   unfold nF
   rw [Nat.pow_add]
   ac_rfl
  rcases Nat.le_total g (dF F s + dF F t) with q | q
  ·obtain ⟨k, hk⟩ : ∃ k, dF F s + dF F t = k + g := ⟨dF F s + dF F t - g, by omega⟩
   refine ⟨_, k, a3, Nat.eq_of_mul_eq_mul_right (Nat.two_pow_pos g) ?_⟩
   rw [e, hk, Nat.pow_add, Nat.mul_assoc, Nat.mul_assoc, Nat.mul_assoc]
  ·obtain ⟨k, hk⟩ : ∃ k, g = k + (dF F s + dF F t) := ⟨g - (dF F s + dF F t), by omega⟩
   refine ⟨Ex, 0, ?_, by rw [Nat.pow_zero, Nat.mul_one]⟩
   rw [hk, Nat.pow_add, ← Nat.mul_assoc] at e
   have e2 := Nat.eq_of_mul_eq_mul_right (Nat.two_pow_pos (dF F s + dF F t)) e
   have := Nat.le_mul_of_pos_right Ex (Nat.two_pow_pos k)
   omega
 have dp : 2^d ∣ nF F p := by rw [hd]; exact dvd_nF (Nat.le_refl p)
 rcases Nat.le_total d k with q | q
 ·-- nothing is left
  have dE : 2^d ∣ Ex := by rw [hck]; exact Nat.dvd_trans (Nat.pow_dvd_pow 2 q) (Nat.dvd_mul_left _ _)
  have dd : 2^d ∣ ds Ex (nF F p) := Nat.dvd_add (Nat.dvd_sub dE dp) (Nat.dvd_sub dp dE)
  have z : ds Ex (nF F p) = 0 := by
   rcases Nat.eq_zero_or_pos (ds Ex (nF F p)) with z | z
   ·exact z
   ·have := Nat.le_of_dvd z dd; have := Nat.two_pow_pos d; omega
  exact ⟨0, by omega, by rw [nF_zero, z]⟩
 ·rcases Nat.eq_zero_or_pos (ds Ex (nF F p)) with z | z
  ·exact ⟨0, by omega, by rw [nF_zero, z]⟩
  have dE : 2^k ∣ Ex := by rw [hck]; exact Nat.dvd_mul_left _ _
  have dp2 : 2^k ∣ nF F p := Nat.dvd_trans (Nat.pow_dvd_pow 2 q) dp
  obtain ⟨y, hy⟩ := Nat.dvd_add (Nat.dvd_sub dE dp2) (Nat.dvd_sub dp2 dE)
  have hy : ds Ex (nF F p) = 2^k * y := hy
  have d0 : d ≠ 0 := by
   intro e
   rw [e, Nat.pow_zero] at L2
   omega
  have m1 : hdF F ≤ mgF F p := by
   have : p / hdF F ≠ 0 := by rw [hd] at d0; unfold dF at d0; omega
   unfold mgF
   rw [if_neg this]; omega
  have P1 : hdF F * 2^d ≤ nF F p := by
   have : nF F p = mgF F p * 2^d := by rw [hd]; rfl
   rw [this]
   exact Nat.mul_le_mul_right _ m1
  obtain ⟨i, hi⟩ : ∃ i, i = F.man - 1 := ⟨_, rfl⟩
  rw [← hi] at hm
  have hfm : (F.man = 24 ∧ F.low = -149) ∨ (F.man = 53 ∧ F.low = -1074) := fm_man h
  have i2 : 2 ≤ i := by omega
  have dk : d ≤ k + i + 2 := by
   refine Nat.le_of_not_lt fun b => ?_
   have b1 : 2^(k + i + 3) ≤ 2^d := Nat.pow_le_pow_right (by decide) (by omega)
   have b2 : Ex < 4 * (hdF F * hdF F) * 2^k := by rw [hck]; exact Nat.mul_lt_mul_of_pos_right hc (Nat.two_pow_pos k)
   have b3 : 4 * (hdF F * hdF F) * 2^k = 2^(2 * i + 2 + k) := by
    rw [hm, show 2 * i + 2 + k = 2 + (i + i) + k by omega, Nat.pow_add, Nat.pow_add, Nat.pow_add]
   have b4 : hdF F * 2^d = 2^(i + d) := by rw [hm, Nat.pow_add]
   have b5 : 2^(2 * i + 2 + k) * 2 ≤ 2^(i + d) := by
    rw [← Nat.pow_succ]
    exact Nat.pow_le_pow_right (by decide) (by omega)
   have b6 : 2 * 2^d ≤ 2^(i + d) := by
    have : 2 * 2^d = 2^(d + 1) := by rw [Nat.pow_succ, Nat.mul_comm]
    rw [this]
    exact Nat.pow_le_pow_right (by decide) (by omega)
   omega
  have yle : y ≤ 2 * hdF F := by
   have b1 : 2 * (2^k * y) ≤ 2^(k + i + 2) := by
    rw [← hy]
    exact Nat.le_trans L2 (Nat.pow_le_pow_right (by decide) dk)
   have b2 : 2^(k + i + 2) = 2 * (2^k * (2 * hdF F)) := by
    rw [hm, Nat.pow_add, Nat.pow_add]
    have : (2 : Nat)^2 = 2 * 2 := rfl
    rw [this]
    ac_rfl
   rw [b2] at b1
   exact Nat.le_of_mul_le_mul_left (Nat.le_of_mul_le_mul_left b1 (by decide)) (Nat.two_pow_pos k)
  obtain ⟨w, hw⟩ := rep_of' h k y yle
  refine ⟨w, ?_, by rw [hw, hy, Nat.mul_comm]⟩
  refine Nat.lt_of_le_of_lt (Nat.le_of_not_lt fun b => ?_) hp
  have b1 := nF_lt h b
  rw [hw, Nat.mul_comm, ← hy] at b1
  have b2 : 2^d ≤ hdF F * 2^d := Nat.le_mul_of_pos_left _ h0
  omega
end Go.Proofs.YtokoadgahflafaaGreatDoor.Err
end
section
namespace Go.Proofs.YtokoadgahflafaaGreatDoor.Ref
open Go.RowKit Go.Proofs.YtokoadgahflafaaGreatDoorW.PrintWords Go.Proofs.YtokoadgahflafaaGreatDoorW.PrintMore Go.Proofs.YtokoadgahflafaaGreatDoor.Num Go.Proofs.YtokoadgahflafaaGreatDoor.PLib Go.Proofs.YtokoadgahflafaaGreatDoor.PRef Fl
theorem bl_dg (m : Nat) : bl m ≤ 32 * (dg m).length := by
 apply bl_le_of_lt; have := dg_len_lt m; rwa [pw_B] at this
end Go.Proofs.YtokoadgahflafaaGreatDoor.Ref
end
section
namespace Go.Proofs.YtokoadgahflafaaGreatDoor.Ref
open Go.RowKit Go.Proofs.YtokoadgahflafaaGreatDoorW.PrintWords Go.Proofs.YtokoadgahflafaaGreatDoorW.PrintMore Go.Proofs.YtokoadgahflafaaGreatDoor.Num Go.Proofs.YtokoadgahflafaaGreatDoor.PLib Go.Proofs.YtokoadgahflafaaGreatDoor.PRef Fl
theorem wraps_u32 (n : Int) (h₀ : 0 ≤ n) (h₁ : n < 2 ^ 32) : IntKind.u32.wrap n = n := by rw [IntKind.wrap_u32]; omega
theorem mask1 {x : Int} (h0 : 0 ≤ x) (h1 : x < 4294967296) : Go.bits .and .u32 x 1 = x % 2 :=
 bits_mask .u32 32 (by decide) wraps_u32 1 (by decide) x h0 h1
theorem rd_dg (m i : Nat) : rd (dg m) (i : Int) = ((m / B^i % B : Nat) : Int) := by
 have h := drop_dg i m
 by_cases hi : i < (dg m).length
 ·rw [rd_get hi]
  rw [List.drop_eq_getElem_cons hi] at h
  have hne : m / B^i ≠ 0 := by intro e; rw [e, dg_zero] at h; cases h
  rw [dg_pos hne] at h
  injection h
 ·rw [rd_out (by omega)]
  rw [List.drop_eq_nil_of_le (by omega)] at h
  have : m / B^i = 0 := dg_nil_iff.1 h.symm
  rw [this]; rfl
theorem bit_num (d r : Nat) (hr : r < 32) (hd : d < 4294967296) : wrap64 (Go.bits .and .u32 (shr .u32 (d : Int) (r : Int)) 1) = ((d / 2^r % 2 : Nat) : Int) := by
 have e : shr .u32 (d : Int) (r : Int) = ((d / 2^r : Nat) : Int) := by
  rw [← shr_small (k := .u32) (x := (d : Int)) (y := (r : Int)) rfl (by have : IntKind.u32.bits = 32 := rfl; rw [this]; omega), Int.toNat_natCast]
  push_cast; rfl
 have hle : d / 2^r ≤ d := Nat.div_le_self _ _
 rw [e]
 generalize d / 2^r = q at *
 rw [mask1 (by omega) (by omega), w64 (by omega) (by omega)]
 omega
theorem low_bit (m x : Nat) : m / B^(x / 32) % B / 2^(x % 32) % 2 = m / 2^x % 2 := by
 have h := div_pow_split m x
 rw [← h]
 generalize m / B^(x / 32) = q
 have hr : x % 32 < 32 := Nat.mod_lt _ (by decide)
 generalize x % 32 = r at *
 have hB : B = 2^(r + 1) * 2^(31 - r) := by rw [← Nat.pow_add, B_eq]; rw [show r + 1 + (31 - r) = 32 by omega]
 have e1 := Nat.div_add_mod q B
 have e2 : q = q % B + 2^r * (2 * (2^(31 - r) * (q / B))) := by
  have : 2^r * (2 * (2^(31 - r) * (q / B))) = B * (q / B) := by
   rw [hB, Nat.pow_succ]; simp only [Nat.mul_assoc]
  omega
 have e3 : q / 2^r = q % B / 2^r + 2 * (2^(31 - r) * (q / B)) := by
  rw (occs := .pos [1]) [e2]
  rw [Nat.add_mul_div_left _ _ (Nat.two_pow_pos r)]
 rw [e3]; omega
theorem bit_ev (m x : Nat) (_hm : (dg m).length < 274877906944) (hx : x < 1099511627776) : Ev (fun k => gnomonref01_Bit.f k (dg m) (x : Int)) ((m / 2^x % 2 : Nat) : Int) := by
 unfold gnomonref01_Bit.f
 have e1 : wrap64 (Int.tdiv (x : Int) 32) = ((x / 32 : Nat) : Int) := by rw [tdiv32, w64 (by omega) (by omega)]
 have c0 : ¬ (x : Int) < 0 := by omega
 simp only [if_neg c0, e1]
 by_cases h : (dg m).length ≤ x / 32
 ·have hd : ((x / 32 : Nat) : Int) ≥ ((dg m).length : Int) := by omega
  simp only [decide_eq_true hd]
  have hr := rd_dg m (x / 32)
  rw [rd_out h] at hr
  have hz : m / 2^x % 2 = 0 := by
   rw [← low_bit]
   have : m / B^(x / 32) % B = 0 := by omega
   rw [this, Nat.zero_div]
  rw [hz]
  exact Ev.step (f := fun _ => some 0) (fun k => by simp only [gnomonref01_Bit.j0]; rw [if_pos trivial]) (Ev.now _)
 ·have hd : ¬ ((x / 32 : Nat) : Int) ≥ ((dg m).length : Int) := by omega
  simp only [decide_eq_false hd]
  have hb := low_bit m x
  have hlt : m / B^(x / 32) % B < 4294967296 := Nat.mod_lt _ B_pos
  refine Ev.step (f := fun _ => some ((m / 2^x % 2 : Nat) : Int)) (fun k => ?_) (Ev.now _)
  simp only [gnomonref01_Bit.j0]
  rw [if_neg (by decide), e1, if_pos (by omega), if_pos (by omega), tmod32, if_pos (by omega), rd_dg, bit_num _ _ (Nat.mod_lt _ (by decide)) hlt, hb]
def Low (m z : Nat) : Prop := 2^z ∣ m ∧ ¬ 2^(z + 1) ∣ m
theorem dvd_step {m x : Nat} (h : 2^x ∣ m) (h2 : m / 2^x % 2 = 0) : 2^(x + 1) ∣ m := by
 obtain ⟨q, rfl⟩ := h
 rw [Nat.mul_div_cancel_left _ (Nat.two_pow_pos x)] at h2
 rw [Nat.pow_succ]
 exact Nat.mul_dvd_mul_left _ (Nat.dvd_of_mod_eq_zero h2)
theorem dvd_no {m x : Nat} (h2 : m / 2^x % 2 ≠ 0) : ¬ 2^(x + 1) ∣ m := by
 rintro ⟨q, rfl⟩
 rw [Nat.pow_succ, Nat.mul_assoc, Nat.mul_div_cancel_left _ (Nat.two_pow_pos x)] at h2
 omega
theorem dvd_bl {m x : Nat} (h0 : m ≠ 0) (h : 2^x ∣ m) : x < bl m := by
 have h1 := Nat.le_of_dvd (by omega) h
 have h2 := bl_lt m
 exact (Nat.pow_lt_pow_iff_right (by decide)).1 (Nat.lt_of_le_of_lt h1 h2)
theorem zeros_l1 (m : Nat) (h0 : m ≠ 0) (hm : (dg m).length < 274877906944) (d : Nat) : ∀ x : Nat, bl m - x = d → 2^x ∣ m → x < 1099511627776 - d → ∃ z : Nat, Low m z ∧ Ev (fun k => gnomonref01_Zeros.l1 k (dg m) (x : Int)) (z : Int) := by
 induction d with
 | zero => intro x hd hx _; have := dvd_bl h0 hx; omega
 | succ d ih =>
  intro x hd hx hlt
  have hb := bit_ev m x hm (by omega)
  by_cases h2 : m / 2^x % 2 = 0
  ·obtain ⟨z, hz, hev⟩ := ih (x + 1) (by omega) (dvd_step hx h2) (by omega)
   refine ⟨z, hz, Ev.step (f := fun k => (gnomonref01_Bit.f k (dg m) (x : Int)).bind fun t => if t = 0 then gnomonref01_Zeros.l1 k (dg m) (wrap64 ((x : Int) + 1)) else some (x : Int)) (fun k => by simp only [gnomonref01_Zeros.l1]) ?_⟩
   refine Ev.bind hb ?_
   rw [h2, next_x x (by omega)]
   simp only [Int.natCast_zero, if_true]
   exact hev
  ·refine ⟨x, ⟨hx, dvd_no h2⟩, Ev.step (f := fun k => (gnomonref01_Bit.f k (dg m) (x : Int)).bind fun t => if t = 0 then gnomonref01_Zeros.l1 k (dg m) (wrap64 ((x : Int) + 1)) else some (x : Int)) (fun k => by simp only [gnomonref01_Zeros.l1]) ?_⟩
   refine Ev.bind hb ?_
   have c : ¬ ((m / 2^x % 2 : Nat) : Int) = 0 := by omega
   simp only [if_neg c]
   exact Ev.now _
theorem zeros_l0 (m : Nat) (h0 : m ≠ 0) (hm : (dg m).length < 8589934592) (d : Nat) : ∀ i : Nat, (dg m).length - i = d → 2^(32 * i) ∣ m → ∃ z : Nat, Low m z ∧ Ev (fun k => gnomonref01_Zeros.l0 k (dg m) ((32 * i : Nat) : Int)) (z : Int) := by
 have hbl := bl_dg m
 induction d with
 | zero =>
  intro i hd hi
  have h1 := Nat.le_of_dvd (by omega) hi
  have h2 := dg_len_lt m
  rw [pw_B] at h2
  have := (Nat.pow_lt_pow_iff_right (a := 2) (by decide)).1 (Nat.lt_of_le_of_lt h1 h2)
  omega
 | succ d ih =>
  intro i hd hi
  have e1 : wrap64 (Int.tdiv ((32 * i : Nat) : Int) 32) = (i : Int) := by rw [tdiv32, Nat.mul_div_cancel_left _ (by decide), w64 (by omega) (by omega)]
  have c1 : (i : Int) < ((dg m).length : Int) := by omega
  have c2 : (0 : Int) ≤ (i : Int) := by omega
  by_cases hz : m / B^i % B = 0
  ·have hdv : 2^(32 * (i + 1)) ∣ m := by
    rw [← pw_B] at hi ⊢
    obtain ⟨q, hq⟩ := hi
    rw [hq, Nat.mul_div_cancel_left _ (Bp i)] at hz
    rw [hq, Nat.pow_succ]
    exact Nat.mul_dvd_mul_left _ (Nat.dvd_of_mod_eq_zero hz)
   obtain ⟨z, hlow, hev⟩ := ih (i + 1) (by omega) hdv
   refine ⟨z, hlow, ?_⟩
   refine Ev.step (f := fun k => gnomonref01_Zeros.j1 k (dg m) ((32 * i : Nat) : Int) true) (fun k => by simp only [gnomonref01_Zeros.l0]; rw [e1, if_pos c1, if_pos c2, rd_dg, hz]; rfl) ?_
   refine Ev.step (f := fun k => gnomonref01_Zeros.l0 k (dg m) ((32 * (i + 1) : Nat) : Int)) (fun k => by simp only [gnomonref01_Zeros.j1]; rw [if_pos trivial, w64 (by omega) (by omega)]; rfl) hev
  ·obtain ⟨z, hlow, hev⟩ := zeros_l1 m h0 (by omega) (bl m - 32 * i) (32 * i) rfl hi (by omega)
   refine ⟨z, hlow, ?_⟩
   have hb : (((m / B^i % B : Nat) : Int) == 0) = false := by rw [beq_eq_false_iff_ne]; omega
   refine Ev.step (f := fun k => gnomonref01_Zeros.j1 k (dg m) ((32 * i : Nat) : Int) false) (fun k => by simp only [gnomonref01_Zeros.l0]; rw [e1, if_pos c1, if_pos c2, rd_dg, hb]) ?_
   exact Ev.step (f := fun k => gnomonref01_Zeros.l1 k (dg m) ((32 * i : Nat) : Int)) (fun k => by simp only [gnomonref01_Zeros.j1]; rw [if_neg (by decide)]) hev
theorem zeros_ev (m : Nat) (h0 : m ≠ 0) (hm : (dg m).length < 8589934592) : ∃ z : Nat, Low m z ∧ Ev (fun k => gnomonref01_Zeros.f k (dg m)) (z : Int) := by
 obtain ⟨z, h, hev⟩ := zeros_l0 m h0 hm _ 0 rfl (by rw [Nat.mul_zero, Nat.pow_zero]; exact Nat.one_dvd _)
 refine ⟨z, h, ?_⟩
 unfold gnomonref01_Zeros.f
 have c : ¬ ((dg m).length : Int) = 0 := by have := dg_len_zero (n := m); omega
 simp only [if_neg c]
 exact hev
end Go.Proofs.YtokoadgahflafaaGreatDoor.Ref
end
