/- What Accept answers: the closed calls of the statements' awake; a float alone. Conditions: as each lemma says. -/
import Derived.Test.YtelfmddcjlocpaaDoorKAcceptMiddlesProdB
namespace Go.Proofs.YtelfmddcjlocpaaDoor.AccW
open Go.RowKit Go.Proofs.YtelfmddcjlocpaaDoor.FW Go.Proofs.YtelfmddcjlocpaaDoor.Eft Go.Proofs.YtelfmddcjlocpaaDoor.EftLaw Fl
abbrev one : Nat := 4607182418800017408
abbrev half : Nat := 4368491638549381120
abbrev small : Nat := 4354980839667269632
theorem fit_no {x y : Nat} {i : Int} {s : Nat} (h : FitR x y i false) (h1 : -100 ≤ i) (h2 : i ≤ -56) (h3 : 553942754166571008 ≤ sz x) (h4 : sz x ≤ 8660422083433463808) (fx : fin x) (fy : fin y)
  (hs : ∀ r, FOp .add x y r → r = s) (ho : (FloatKind.f64.format.order s x == some .eq) = true) : False := by
 rcases h with ⟨_, _, _, _, h⟩ | ⟨h, _⟩
 ·rcases h with ⟨_, _, r, hr, he⟩ | ⟨h, _⟩
  ·rw [hs r hr, ho] at he; cases he
  ·exact h ⟨fx, fy⟩
 ·exact h ⟨h1, h2, h3, h4⟩
theorem way_det {x y : Nat} {i : Int} {u d L m u1 v d1 e : Nat} (h : Way x y i u d) (c1 : floatBits .mul .f64 4607182418800017408 (E15 i) = some L) (c2 : floatBits .mul .f64 (sz x) L = some m) (c3 : floatBits .add .f64 y m = some u1)
  (c4 : floatBits .add .f64 x u1 = some v) (c5 : floatBits .sub .f64 y m = some d1) (c6 : floatBits .add .f64 x d1 = some e) : u = v ∧ d = e := by
 obtain ⟨L', m', u', d', a1, a2, a3, a4, a5, a6⟩ := h.out
 obtain rfl := a1.val _ c1
 obtain rfl := a2.val _ c2
 obtain rfl := a3.val _ c3
 obtain rfl := a5.val _ c5
 exact ⟨a4.val _ c4, a6.val _ c6⟩
theorem sz1 : sz one = one := by decide
theorem ask1 {r : Nat} {ok : Bool} (h : AcceptR one 0 (-60) r ok) : r = one ∧ ok = true := by
 rcases h with ⟨h, _⟩ | ⟨_, u, d, hw, h⟩
 ·exact (fit_no (s := one) h (by decide) (by decide) (by decide) (by decide) (by unfold fin; decide) (by unfold fin; decide) (fun r hr => hr.val _ (by kernel_rfl)) (by kernel_rfl)).elim
 ·obtain ⟨rfl, rfl⟩ := way_det (L := 4339218240971472896) (m := 4339218240971472896) (u1 := 4339218240971472896) (v := one) (d1 := 13562590277826248704) (e := one) hw (by kernel_rfl) (by rw [sz1]; kernel_rfl) (by kernel_rfl) (by kernel_rfl) (by kernel_rfl) (by kernel_rfl)
  rcases h with ⟨h, _⟩ | ⟨_, h1, h2⟩
  ·have e : (FloatKind.f64.format.order one one != some .eq) = false := by kernel_rfl
   rw [e] at h; cases h
  ·exact ⟨h1, h2⟩
theorem ask2 {r : Nat} {ok : Bool} (h : AcceptR one half (-60) r ok) : r = 0 ∧ ok = false := by
 rcases h with ⟨_, h⟩ | ⟨_, u, d, hw, h⟩
 ·exact h
 ·obtain ⟨rfl, rfl⟩ := way_det (L := 4339218240971472896) (m := 4339218240971472896) (u1 := 4368544415107514368) (v := 4607182418800017409) (d1 := 4368386085433114624) (e := one) hw (by kernel_rfl) (by rw [sz1]; kernel_rfl) (by kernel_rfl) (by kernel_rfl) (by kernel_rfl) (by kernel_rfl)
  rcases h with ⟨_, h⟩ | ⟨h, _⟩
  ·exact h
  ·have e : (FloatKind.f64.format.order 4607182418800017409 one != some .eq) = true := by kernel_rfl
   rw [e] at h; cases h
theorem ask3 {r : Nat} {ok : Bool} (h : AcceptR one small (-56) r ok) : r = one ∧ ok = true := by
 rcases h with ⟨h, _⟩ | ⟨_, u, d, hw, h⟩
 ·exact (fit_no (s := one) h (by decide) (by decide) (by decide) (by decide) (by unfold fin; decide) (by unfold fin; decide) (fun r hr => hr.val _ (by kernel_rfl)) (by kernel_rfl)).elim
 ·obtain ⟨rfl, rfl⟩ := way_det (L := 4357232639480954880) (m := 4357232639480954880) (u1 := 4360610339201482752) (v := one) (d1 := 13573849276894674944) (e := one) hw (by kernel_rfl) (by rw [sz1]; kernel_rfl) (by kernel_rfl) (by kernel_rfl) (by kernel_rfl) (by kernel_rfl)
  rcases h with ⟨h, _⟩ | ⟨_, h1, h2⟩
  ·have e : (FloatKind.f64.format.order one one != some .eq) = false := by kernel_rfl
   rw [e] at h; cases h
  ·exact ⟨h1, h2⟩
def OnW (w : World) (e : Ending) (w' : World) : Prop := e = .returned (.bool true) ∧ Below w.heap.size w w'
theorem on {W w w' : World} (h : Below W.heap.size W w) (k : Below w.heap.size w w') : Below W.heap.size W w' := h.trans (k.mono h.size)
set_option maxHeartbeats 2000000 in
theorem awake_any (w : World) : Calls Tryd.prog 24 #[] w (OnW w) := by
 go_enter Tryd.func24, Tryd.ntmps24
 go_wp2_with fail
 refine (ask_any _ _ _ (by decide) (by decide) _).mono ?_
 rintro e w1 ⟨r, ok, rfl, hr, hb1⟩
 obtain ⟨rfl, rfl⟩ := ask1 hr
 go_wp2_with fail
 refine (ask_any _ _ _ (by decide) (by decide) _).mono ?_
 rintro e w2 ⟨r, ok, rfl, hr, hb2⟩
 obtain ⟨rfl, rfl⟩ := ask2 hr
 go_wp2_with fail
 refine (ask_any _ _ _ (by decide) (by decide) _).mono ?_
 rintro e w3 ⟨r, ok, rfl, hr, hb3⟩
 obtain ⟨rfl, rfl⟩ := ask3 hr
 go_wp2_with fail
 go_ret
 exact ⟨rfl, on (on hb1 hb2) hb3⟩
theorem U_one (g : Nat) (hg : g = 1074) : U one = 2^g := by
 obtain ⟨k, hk⟩ : ∃ k, k = 1022 := ⟨_, rfl⟩
 have h1 := mg_top k
 have e1 : sz one = (k + 1) * 2^52 := by
  rw [hk]; decide
 have e2 : ng one = false := by decide
 unfold U
 rw [e2, e1, h1, if_neg (by decide), ← Nat.pow_add]
 have e3 : 52 + k = g := by omega
 rw [e3]
 exact Int.natCast_pow 2 g
theorem U_E15 (i : Int) (c1 : -100 ≤ i) (c2 : i ≤ -56) (n : Nat) (hn : (n : Int) = i + 1073) : U (E15 i) = ((3 * 2^n : Nat) : Int) ∧ fin (E15 i) := by
 obtain ⟨q, hq⟩ : ∃ q : Nat, (q : Int) = i + 1022 := ⟨(i + 1022).toNat, by omega⟩
 have e0 : E15 i = q * 2^52 + (2^52 + 2^51) := by unfold E15; omega
 have h1 := mg_make (k := q) (m := 2^52 + 2^51) (by decide) (Or.inr (by decide))
 rw [← e0] at h1
 have hlt : E15 i < 2^63 := by rw [e0]; omega
 have e1 : sz (E15 i) = E15 i := Nat.mod_eq_of_lt hlt
 refine ⟨?_, by unfold fin INF; rw [e1, e0]; omega⟩
 rw [U_pos hlt, h1]
 have e3 : n = q + 51 := by omega
 rw [e3, Nat.pow_add]
 congr 1
 omega
theorem ke_big {v : Int} (h : 2^100 ≤ v.natAbs) : 47 < ke 0 v := by
 have h1 := ke_lt 0 v
 by_cases c : 47 < ke 0 v
 ·exact c
 ·have h2 := pow_le_of (show ke 0 v ≤ 47 by omega)
  generalize (2:Int)^(ke 0 v) = Q at *
  omega
theorem big900 {b : Nat} (h : 553942754166571008 ≤ sz b) : 2^120 ≤ (U b).natAbs := by
 rw [U_natAbs]
 obtain ⟨k, hk⟩ : ∃ k, k = 122 := ⟨_, rfl⟩
 have h2 := mg_top k
 have h3 := mg_le (r := (k + 1) * 2^52) (s := sz b) (by omega)
 rw [h2] at h3
 have h4 := Nat.pow_le_pow_right (n := 2) (by decide) (show 68 ≤ k by omega)
 omega
theorem margin {x : Nat} {i : Int} {L m : Nat} (c1 : -100 ≤ i) (c2 : i ≤ -56) (h1 : 553942754166571008 ≤ sz x) (h2 : sz x ≤ 8660422083433463808)
  (a1 : FOp .mul 4607182418800017408 (E15 i) L) (a2 : FOp .mul (sz x) L m) : fin m ∧ 2^55 * (U m).natAbs ≤ (U x).natAbs := by
 obtain ⟨g, hg⟩ : ∃ g, g = 1074 := ⟨_, rfl⟩
 obtain ⟨n, hn⟩ : ∃ n : Nat, (n : Int) = i + 1073 := ⟨(i + 1073).toNat, by omega⟩
 obtain ⟨uE, fE⟩ := U_E15 i c1 c2 n hn
 have uO := U_one g hg
 have fO : fin 4607182418800017408 := by unfold fin; decide
 have hTE := TE_eq
 have h3n : 3 * 2^n ≤ 2^(n + 2) := by rw [Nat.pow_add]; omega
 have hnT : 2^(n + 2) ≤ T0 := Nat.pow_le_pow_right (by decide) (by omega)
 obtain ⟨iL, _⟩ := mul_in (m := 1) hg a1 fO fE (by
  rw [uO, uE, Int.natAbs_mul, Int.natAbs_pow, Int.natAbs_natCast, Nat.one_mul, Nat.mul_comm T0]
  exact Nat.mul_le_mul_left _ (Nat.le_trans h3n hnT)) (by decide)
 have uL : U L = U (E15 i) := by
  have v := iL.val
  rw [uO, Int.mul_comm (2^g) (U (E15 i))] at v
  have s := rnI_scale 0 (U (E15 i)) g
  rw [Nat.zero_add] at s
  rw [s, rnI_exact (U_isF _)] at v
  exact Int.eq_of_mul_eq_mul_right (by have := ipw g; omega) v
 obtain ⟨fx, bx⟩ := atMost_995 (a := x) (by omega)
 have hxs : sz x < 2^63 := Nat.mod_lt _ (by decide)
 have ux : (U (sz x)).natAbs = (U x).natAbs := by rw [U_natAbs, U_natAbs, show sz (sz x) = sz x from Nat.mod_eq_of_lt hxs]
 have fsx : fin (sz x) := by unfold fin at *; rw [show sz (sz x) = sz x from Nat.mod_eq_of_lt hxs]; exact fx
 obtain ⟨p, hp⟩ : ∃ p, g = p + 55 := ⟨g - 55, by omega⟩
 have hg2 : 2^g = 2^55 * 2^p := by rw [hp, Nat.pow_add, Nat.mul_comm]
 have hnp : 3 * 2^n ≤ 2^p := Nat.le_trans h3n (Nat.pow_le_pow_right (by decide) (by omega))
 have hX : (U (sz x) * U L).natAbs ≤ (U x).natAbs * 2^p := by
  rw [Int.natAbs_mul, ux, uL, uE, Int.natAbs_natCast]
  exact Nat.mul_le_mul_left _ hnp
 have hX2 : (U x).natAbs * 2^p ≤ 1 * T0 * 2^g := by
  rw [hg2, Nat.one_mul, ← Nat.mul_assoc]
  refine Nat.mul_le_mul_right _ (Nat.le_trans bx ?_)
  rw [Nat.mul_comm]
  exact Nat.mul_le_mul_left _ (by decide)
 obtain ⟨im, _⟩ := mul_in (m := 1) hg a2 fsx iL.fin (Nat.le_trans hX hX2) (by decide)
 have hbig := big900 h1
 have hkb := ke_big (v := U x) (Nat.le_trans (by decide) hbig)
 have hkb2 : 55 ≤ ke 0 (U x) := by
  by_cases c : 55 ≤ ke 0 (U x)
  ·exact c
  ·have h1 := ke_lt 0 (U x)
   have h2 := pow_le_of (show ke 0 (U x) ≤ 55 by omega)
   generalize (2:Int)^(ke 0 (U x)) = Q at *
   omega
 have hF : isF g (((U x).natAbs * 2^p : Nat) : Int) := by
  refine ⟨ke 0 (U x) + p, by omega, ?_, ?_⟩
  ·rw [natAbs_dvd', Int.natAbs_natCast, Nat.pow_add]
   exact Nat.mul_dvd_mul_right (natAbs_dvd'.1 (isF_dvd (U_isF x))) _
  ·rw [Int.natAbs_natCast, Nat.pow_add, ← Nat.mul_assoc]
   refine Nat.mul_le_mul_right _ ?_
   have := ke_lt 0 (U x)
   exact Nat.le_of_lt (by exact_mod_cast this)
 have hb := rn_bound hF hX
 rw [← im.val, Int.natAbs_mul, Int.natAbs_pow] at hb
 refine ⟨im.fin, ?_⟩
 have e2 : (U m).natAbs * (2 : Int).natAbs ^ g = 2^55 * (U m).natAbs * 2^p := by
  show (U m).natAbs * 2^g = _
  rw [hg2, Nat.mul_comm (2^55) (U m).natAbs, Nat.mul_assoc]
 rw [e2] at hb
 exact Nat.le_of_mul_le_mul_right hb (Nat.two_pow_pos p)
end Go.Proofs.YtelfmddcjlocpaaDoor.AccW
