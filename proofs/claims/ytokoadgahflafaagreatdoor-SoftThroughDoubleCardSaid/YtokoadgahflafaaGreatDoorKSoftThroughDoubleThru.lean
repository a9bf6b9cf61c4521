/- Rounding twice, to binary64 and then to binary32, does no harm to sums, products, quotients and roots of binary32 numbers (Figueroa). Plain Lean. Conditions: as each lemma says. -/
import Derived.Test.YtokoadgahflafaaGreatDoorKSoftThroughDoubleErr
set_option linter.unusedVariables false
namespace Go.Proofs.YtokoadgahflafaaGreatDoor.Thru
open Go.Proofs.YtokoadgahflafaaGreatDoor.BinLaw Go.Proofs.YtokoadgahflafaaGreatDoor.Ref Go.Proofs.YtokoadgahflafaaGreatDoor.Fm8 Go.Proofs.YtokoadgahflafaaGreatDoor.Rnd Go.Proofs.YtokoadgahflafaaGreatDoor.Sq Go.Proofs.YtokoadgahflafaaGreatDoor.Rep Go.Proofs.YtokoadgahflafaaGreatDoor.Err
theorem tS : Fm 32 fS := .inl ⟨rfl, rfl⟩
theorem tD : Fm 64 fD := .inr ⟨rfl, rfl⟩
theorem hS : hdF fS = 2^23 := by decide
theorem hD : hdF fD = 2^52 := by decide
noncomputable def KK : Nat := Classical.choose (⟨925, rfl⟩ : ∃ n : Nat, n = 925)
theorem KK_eq : KK = 925 := Classical.choose_spec (⟨925, rfl⟩ : ∃ n : Nat, n = 925)
theorem md0 (F : Fmt) (s : Nat) : md F 0 s = nF F s + nF F (s + 1) := by unfold md; rw [Nat.pow_zero, Nat.mul_one]
theorem mid_rep (t : Nat) : ∃ u, 2 * nF fD u = md fS 0 t * 2^KK := by
 have l := mg_lt2 tS t
 have e : fS.man = 24 := by decide
 rw [e] at l
 obtain ⟨u, hu⟩ := rep_of' tD (dF fS t + (KK - 1)) (2 * mgF fS t + 1) (by rw [hD]; omega)
 refine ⟨u, ?_⟩
 rw [hu, md_odd tS, Nat.mul_assoc, ← Nat.pow_add, Nat.mul_left_comm, ← Nat.pow_succ']
 congr 2
 have := KK_eq
 omega
theorem nq_le {F : Fmt} {f : Int} (h : Fm f F) {n d s u : Nat} (a : Nq F n d s) (hn : n ≤ nF F u * d) (hd : 0 < d) : s ≤ u := by
 refine Nat.le_of_not_lt fun c => ?_
 obtain ⟨t, rfl⟩ : ∃ t, s = t + 1 := ⟨s - 1, by omega⟩
 have dn := a.dn t rfl
 rw [md0] at dn
 have m1 := nF_le h (show u ≤ t by omega)
 have m2 := nF_step h t
 have m3 : (2 * nF F u + 1) * d ≤ (nF F t + nF F (t + 1)) * d := Nat.mul_le_mul_right _ (by omega)
 rw [Nat.add_mul, Nat.one_mul, Nat.mul_assoc] at m3
 omega
theorem nq_ge {F : Fmt} {f : Int} (h : Fm f F) {n d s u : Nat} (a : Nq F n d s) (hn : nF F u * d ≤ n) (hd : 0 < d) (hs : s < F.inf) : u ≤ s := by
 refine Nat.le_of_not_lt fun c => ?_
 have up := a.up hs
 rw [md0] at up
 have m1 := nF_le h (show s + 1 ≤ u by omega)
 have m2 := nF_step h s
 have m3 : (nF F s + nF F (s + 1) + 1) * d ≤ (2 * nF F u) * d := Nat.mul_le_mul_right _ (by omega)
 rw [Nat.add_mul, Nat.one_mul, Nat.mul_assoc] at m3
 omega
theorem dbl {n d s r : Nat} (hd : 0 < d) (a : Nq fD n d s) (hs : s < fD.inf) (b : Nst fS KK (nF fD s) r) (pr : ∀ t, md fS 0 t * 2^KK = 2 * nF fD s → md fS 0 t * 2^KK * d = 2 * n) : Nq fS n (d * 2^KK) r := by
 have ee : ∀ M, M * (d * 2^KK) = M * 2^KK * d := fun M => by ac_rfl
 refine ⟨b.le, fun c => ?_, fun t e => ?_⟩
 ·rw [ee]
  have up := b.up c
  rw [md_g] at up
  obtain ⟨u, hu⟩ := mid_rep r
  rcases up with q | ⟨q, q2⟩
  ·left
   refine Nat.lt_of_not_le fun k => ?_
   rw [← hu, Nat.mul_assoc] at k
   have := nF_le tD (nq_ge tD a (u := u) (by omega) hd hs)
   omega
  ·exact .inr ⟨(pr r q.symm).symm, q2⟩
 ·rw [ee]
  have dn := b.dn t e
  rw [md_g] at dn
  obtain ⟨u, hu⟩ := mid_rep t
  rcases dn with q | ⟨q, q2⟩
  ·left
   refine Nat.lt_of_not_le fun k => ?_
   rw [← hu, Nat.mul_assoc] at k
   have := nF_le tD (nq_le tD a (u := u) (by omega) hd)
   omega
  ·exact .inr ⟨pr t q, q2⟩
theorem nr_le {F : Fmt} {f : Int} (h : Fm f F) {n d s u : Nat} (a : Nr F n d s) (hn : n ≤ nF F u * nF F u * d) (hd : 0 < d) : s ≤ u := by
 refine Nat.le_of_not_lt fun c => ?_
 obtain ⟨t, rfl⟩ : ∃ t, s = t + 1 := ⟨s - 1, by omega⟩
 have dn := a.dn t rfl
 rw [md0] at dn
 have m1 := nF_le h (show u ≤ t by omega)
 have m2 := nF_step h t
 have m3 : (2 * nF F u) * (2 * nF F u) < (nF F t + nF F (t + 1)) * (nF F t + nF F (t + 1)) := Nat.mul_self_lt_mul_self (by omega)
 have m4 := Nat.mul_lt_mul_of_pos_right m3 hd
 have e : 2 * nF F u * (2 * nF F u) * d = 4 * (nF F u * nF F u * d) := by rw [Nat.mul_mul_mul_comm, Nat.mul_assoc]
 omega
theorem nr_ge {F : Fmt} {f : Int} (h : Fm f F) {n d s u : Nat} (a : Nr F n d s) (hn : nF F u * nF F u * d ≤ n) (hd : 0 < d) (hs : s < F.inf) : u ≤ s := by
 refine Nat.le_of_not_lt fun c => ?_
 have up := a.up hs
 rw [md0] at up
 have m1 := nF_le h (show s + 1 ≤ u by omega)
 have m2 := nF_step h s
 have m3 : (nF F s + nF F (s + 1)) * (nF F s + nF F (s + 1)) < (2 * nF F u) * (2 * nF F u) := Nat.mul_self_lt_mul_self (by omega)
 have m4 := Nat.mul_lt_mul_of_pos_right m3 hd
 have e : 2 * nF F u * (2 * nF F u) * d = 4 * (nF F u * nF F u * d) := by rw [Nat.mul_mul_mul_comm, Nat.mul_assoc]
 omega
theorem dblR {n d s r : Nat} (hd : 0 < d) (a : Nr fD n d s) (hs : s < fD.inf) (b : Nst fS KK (nF fD s) r) (pr : ∀ t, md fS 0 t * 2^KK = 2 * nF fD s → md fS 0 t * 2^KK * (md fS 0 t * 2^KK) * d = 4 * n) : Nr fS n (d * (2^KK * 2^KK)) r := by
 have ee : ∀ M, M * M * (d * (2^KK * 2^KK)) = M * 2^KK * (M * 2^KK) * d := fun M => by ac_rfl
 have e4 : ∀ u, 2 * nF fD u * (2 * nF fD u) * d = 4 * (nF fD u * nF fD u * d) := fun u => by rw [Nat.mul_mul_mul_comm, Nat.mul_assoc]
 refine ⟨b.le, fun c => ?_, fun t e => ?_⟩
 ·rw [ee]
  have up := b.up c
  rw [md_g] at up
  obtain ⟨u, hu⟩ := mid_rep r
  rcases up with q | ⟨q, q2⟩
  ·left
   refine Nat.lt_of_not_le fun k => ?_
   rw [← hu, e4] at k
   have := nF_le tD (nr_ge tD a (u := u) (by omega) hd hs)
   omega
  ·exact .inr ⟨(pr r q.symm).symm, q2⟩
 ·rw [ee]
  have dn := b.dn t e
  rw [md_g] at dn
  obtain ⟨u, hu⟩ := mid_rep t
  rcases dn with q | ⟨q, q2⟩
  ·left
   refine Nat.lt_of_not_le fun k => ?_
   rw [← hu, e4] at k
   have := nF_le tD (nr_le tD a (u := u) (by omega) hd)
   omega
  ·exact .inr ⟨pr t q, q2⟩
theorem grain {a b i j : Nat} (h : 2^51 * ds (a * 2^i) (b * 2^j) ≤ b * 2^j) (ha : a < 2^24) (hb : b < 2^50) : a * 2^i = b * 2^j := by
 have fin : ∀ {A B G c : Nat}, ds A B = G * c → 2 * ds A B < 2 * G → A = B := fun e l => by
  rename_i A B G c
  have c0 : c = 0 := by
   rcases Nat.eq_zero_or_pos c with q | q
   ·exact q
   ·have := Nat.le_mul_of_pos_right G q; omega
  rw [c0, Nat.mul_zero] at e
  unfold ds at e
  omega
 have mul : ∀ {A B G : Nat}, G ∣ A → G ∣ B → ∃ c, ds A B = G * c := fun x y => Nat.dvd_add (Nat.dvd_sub x y) (Nat.dvd_sub y x)
 by_cases c : i ≤ j
 ·have dA : 2^i ∣ a * 2^i := Nat.dvd_mul_left _ _
  have dB : 2^i ∣ b * 2^j := Nat.dvd_trans (Nat.pow_dvd_pow 2 c) (Nat.dvd_mul_left _ _)
  obtain ⟨z, hz⟩ := mul dA dB
  refine fin hz ?_
  have l : a * 2^i < 2^24 * 2^i := Nat.mul_lt_mul_of_pos_right ha (Nat.two_pow_pos _)
  have t : b * 2^j ≤ a * 2^i + ds (a * 2^i) (b * 2^j) := by unfold ds; omega
  generalize ds (a * 2^i) (b * 2^j) = D at *
  omega
 ·have dA : 2^j ∣ a * 2^i := Nat.dvd_trans (Nat.pow_dvd_pow 2 (by omega)) (Nat.dvd_mul_left _ _)
  have dB : 2^j ∣ b * 2^j := Nat.dvd_mul_left _ _
  obtain ⟨z, hz⟩ := mul dA dB
  refine fin hz ?_
  have l : b * 2^j < 2^50 * 2^j := Nat.mul_lt_mul_of_pos_right hb (Nat.two_pow_pos _)
  generalize ds (a * 2^i) (b * 2^j) = D at *
  omega
theorem last_place {s : Nat} (h : 2^60 ≤ nF fD s) : 2^52 * 2^(dF fD s) ≤ nF fD s := by
 have m := mg_lt1 tD s
 rw [hD] at m
 unfold nF at h ⊢
 refine Nat.mul_le_mul_right _ ?_
 by_cases c : s / hdF fD = 0
 ·have e : dF fD s = 0 := by unfold dF; rw [c]
  rw [e] at h
  omega
 ·unfold mgF
  rw [if_neg c, hD]
  omega
theorem mid_big {s t : Nat} (e : md fS 0 t * 2^KK = 2 * nF fD s) : 2^60 ≤ nF fD s := by
 have k := KK_eq
 rw [md_odd tS] at e
 have p := Nat.two_pow_pos (dF fS t)
 have q : 1 ≤ (2 * mgF fS t + 1) * 2^(dF fS t) := Nat.mul_pos (by omega) p
 have r := Nat.mul_le_mul_right (2^KK) q
 have z : 2^61 ≤ 2^KK := Nat.pow_le_pow_right (by decide) (by omega)
 omega
theorem quo_near {n d s : Nat} (a : Nq fD n d s) (hs : s < fD.inf) (hb : 2^60 ≤ nF fD s) : 2^53 * ds (2 * n) (2 * nF fD s * d) ≤ 2 * nF fD s * d := by
 have l := last_place hb
 have up := a.up hs
 rw [md0, nF_next tD] at up
 obtain ⟨t, rfl⟩ : ∃ t, s = t + 1 := ⟨s - 1, by
  rcases Nat.eq_zero_or_pos s with c | c
  ·rw [c, nF_zero] at hb; omega
  ·omega⟩
 have dn := a.dn t rfl
 rw [md0] at dn
 have nx := nF_next tD t
 have mono : 2^(dF fD t) ≤ 2^(dF fD (t + 1)) := Nat.pow_le_pow_right (by decide) (dF_mono (by omega))
 generalize nF fD (t + 1) = M at *
 generalize nF fD t = M' at *
 generalize 2^(dF fD (t + 1)) = P at *
 generalize 2^(dF fD t) = P' at *
 have u1 : 2 * n ≤ 2 * M * d + P * d := by
  have : (M + (M + P)) * d = 2 * M * d + P * d := by rw [← Nat.add_mul]; congr 1; omega
  omega
 have u2 : 2 * M * d ≤ 2 * n + P * d := by
  have : (M' + M) * d + P' * d = 2 * M * d := by rw [← Nat.add_mul]; congr 1; omega
  have : P' * d ≤ P * d := Nat.mul_le_mul_right _ mono
  omega
 have u3 : 2^52 * (P * d) ≤ M * d := by rw [← Nat.mul_assoc]; exact Nat.mul_le_mul_right _ l
 have u4 : 2 * M * d = 2 * (M * d) := Nat.mul_assoc ..
 unfold ds
 omega
theorem quo_pr {s i j mx my d n : Nat} (a : Nq fD n d s) (hs : s < fD.inf) (hn : n = mx * 2^i) (hd : d = my * 2^j) (h1 : mx < 2^24) (h2 : my < 2^24) : ∀ t, md fS 0 t * 2^KK = 2 * nF fD s → md fS 0 t * 2^KK * d = 2 * n := by
 intro t e
 have q := quo_near a hs (mid_big e)
 rw [← e] at q
 have l := mg_lt2 tS t
 have e24 : fS.man = 24 := by decide
 rw [e24] at l
 have en : 2 * n = mx * 2^(i + 1) := by rw [hn, Nat.pow_succ]; ac_rfl
 have em : md fS 0 t * 2^KK * d = ((2 * mgF fS t + 1) * my) * 2^(dF fS t + KK + j) := by rw [md_odd tS, hd, Nat.pow_add, Nat.pow_add]; ac_rfl
 rw [en, em] at q ⊢
 refine (grain (by omega) h1 ?_).symm
 have := Nat.mul_lt_mul'' l h2
 omega
theorem root_near {n d s : Nat} (a : Nr fD n d s) (hs : s < fD.inf) (hb : 2^60 ≤ nF fD s) : 2^51 * ds (4 * n) (2 * nF fD s * (2 * nF fD s) * d) ≤ 2 * nF fD s * (2 * nF fD s) * d := by
 have l := last_place hb
 have up := a.up hs
 rw [md0, nF_next tD] at up
 obtain ⟨t, rfl⟩ : ∃ t, s = t + 1 := ⟨s - 1, by
  rcases Nat.eq_zero_or_pos s with c | c
  ·rw [c, nF_zero] at hb; omega
  ·omega⟩
 have dn := a.dn t rfl
 rw [md0] at dn
 have nx := nF_next tD t
 have mono : 2^(dF fD t) ≤ 2^(dF fD (t + 1)) := Nat.pow_le_pow_right (by decide) (dF_mono (by omega))
 generalize nF fD (t + 1) = M at *
 generalize nF fD t = M' at *
 generalize 2^(dF fD (t + 1)) = P at *
 generalize 2^(dF fD t) = P' at *
 obtain ⟨N, hN⟩ : ∃ N, N = 2 * M := ⟨_, rfl⟩
 have u1 : 4 * n ≤ (N + P) * (N + P) * d := by
  have : M + (M + P) = N + P := by omega
  rw [this] at up
  omega
 have u2 : (N - P) * (N - P) * d ≤ 4 * n := by
  have k : N - P ≤ M' + M := by omega
  have := Nat.mul_le_mul_right d (Nat.mul_self_le_mul_self k)
  omega
 have pn : 2^53 * P ≤ N := by omega
 rw [← hN]
 have x1 : (N + P) * (N + P) = N * N + (2 * (N * P) + P * P) := by rw [Nat.add_mul, Nat.mul_add, Nat.mul_add, Nat.mul_comm P N]; omega
 have x2 : N * N ≤ (N - P) * (N - P) + 2 * (N * P) := by
  obtain ⟨Q, rfl⟩ : ∃ Q, N = Q + P := ⟨N - P, by omega⟩
  rw [Nat.add_sub_cancel, Nat.add_mul, Nat.mul_add, Nat.mul_add, Nat.add_mul, Nat.mul_comm P Q]
  have := Nat.zero_le (P * P)
  omega
 have x3 : 2^53 * (N * P) ≤ N * N := by rw [Nat.mul_left_comm]; exact Nat.mul_le_mul_left _ pn
 have x4 : P * P ≤ N * P := Nat.mul_le_mul_right _ (by omega)
 have y1 := Nat.mul_le_mul_right d x2
 have y3 := Nat.mul_le_mul_right d x3
 have y4 := Nat.mul_le_mul_right d x4
 rw [x1] at u1
 rw [Nat.add_mul, Nat.add_mul] at u1
 rw [Nat.add_mul] at y1
 rw [Nat.mul_assoc (2^53)] at y3
 rw [Nat.mul_assoc 2] at u1 y1
 generalize N * P * d = a1 at *
 generalize P * P * d = a2 at *
 generalize N * N * d = a3 at *
 generalize (N - P) * (N - P) * d = a4 at *
 unfold ds
 omega
theorem root_pr {s i j mx d n : Nat} (a : Nr fD n d s) (hs : s < fD.inf) (hn : n = mx * 2^i) (hd : d = 2^j) (h1 : mx < 2^24) : ∀ t, md fS 0 t * 2^KK = 2 * nF fD s → md fS 0 t * 2^KK * (md fS 0 t * 2^KK) * d = 4 * n := by
 intro t e
 have q := root_near a hs (mid_big e)
 rw [← e] at q
 have l := mg_lt2 tS t
 have e24 : fS.man = 24 := by decide
 rw [e24] at l
 have en : 4 * n = mx * 2^(i + 2) := by rw [hn, Nat.pow_add]; show 4 * (mx * 2^i) = mx * (2^i * 4); rw [Nat.mul_left_comm, Nat.mul_comm 4]
 have em : md fS 0 t * 2^KK * (md fS 0 t * 2^KK) * d = ((2 * mgF fS t + 1) * (2 * mgF fS t + 1)) * 2^(dF fS t + KK + (dF fS t + KK) + j) := by rw [md_odd tS, hd, Nat.pow_add, Nat.pow_add, Nat.pow_add]; ac_rfl
 rw [en, em] at q ⊢
 refine (grain q h1 ?_).symm
 have := Nat.mul_lt_mul'' l l
 omega
theorem rep_pr {V s v : Nat} (a : Nst fD 0 V s) (hv : v ≤ fD.inf) (e : nF fD v = V) : ∀ t, md fS 0 t * 2^KK = 2 * nF fD s → md fS 0 t * 2^KK * 1 = 2 * V := by
 intro t h
 have := exact_of tD a hv e
 rw [h, Nat.mul_one, this, e]
theorem near_far {m e mx dx y : Nat} (hm : 2 * m + 1 < 2^25) (he : e = 0 ∨ 2^23 ≤ m) (hx : 2^23 ≤ mx) (hx2 : mx < 2^24) (hdx : 4 ≤ dx) (h : ds ((2 * m + 1) * 2^e) (mx * 2^(dx + 1)) ≤ y) (hy : 8 * y < 2^dx) : False := by
 have p := Nat.two_pow_pos e
 have low : 2^23 * 2^(dx + 1) ≤ mx * 2^(dx + 1) := Nat.mul_le_mul_right _ hx
 have e1 : 2^(dx + 1) = 2 * 2^dx := Nat.pow_succ' ..
 have big : 2^23 * 2^dx ≤ (2 * m + 1) * 2^e := by
  unfold ds at h
  rw [e1] at h low
  omega
 have lt : (2 * m + 1) * 2^e < 2^25 * 2^e := Nat.mul_lt_mul_of_pos_right hm p
 have ke : dx ≤ e + 1 := by
  have : 2^(23 + dx) < 2^(25 + e) := by rw [Nat.pow_add, Nat.pow_add]; omega
  have := (Nat.pow_lt_pow_iff_right (a := 2) (by decide)).1 this
  omega
 have d1 : 2^(dx - 1) ∣ (2 * m + 1) * 2^e := Nat.dvd_trans (Nat.pow_dvd_pow 2 (by omega)) (Nat.dvd_mul_left _ _)
 have d2 : 2^(dx - 1) ∣ mx * 2^(dx + 1) := Nat.dvd_trans (Nat.pow_dvd_pow 2 (by omega)) (Nat.dvd_mul_left _ _)
 have dd : 2^(dx - 1) ∣ ds ((2 * m + 1) * 2^e) (mx * 2^(dx + 1)) := Nat.dvd_add (Nat.dvd_sub d1 d2) (Nat.dvd_sub d2 d1)
 have e2 : 2^dx = 2 * 2^(dx - 1) := by rw [← Nat.pow_succ']; congr 1; omega
 have eq : (2 * m + 1) * 2^e = mx * 2^(dx + 1) := by
  rcases Nat.eq_zero_or_pos (ds ((2 * m + 1) * 2^e) (mx * 2^(dx + 1))) with c | c
  ·unfold ds at c; omega
  ·have := Nat.le_of_dvd c dd; omega
 by_cases c : e ≤ dx
 ·obtain ⟨k, hk⟩ : ∃ k, dx + 1 = e + (k + 1) := ⟨dx - e, by omega⟩
  rw [hk, Nat.pow_add, ← Nat.mul_assoc, Nat.mul_right_comm] at eq
  have := Nat.eq_of_mul_eq_mul_right p eq
  rw [Nat.pow_succ, ← Nat.mul_assoc] at this
  omega
 ·obtain ⟨k, hk⟩ : ∃ k, e = dx + 1 + k := ⟨e - (dx + 1), by omega⟩
  rw [hk, Nat.pow_add, ← Nat.mul_assoc, Nat.mul_right_comm] at eq
  have := Nat.eq_of_mul_eq_mul_right (Nat.two_pow_pos (dx + 1)) eq
  have q := Nat.le_mul_of_pos_right (2 * m + 1) (Nat.two_pow_pos k)
  rcases he with he | he
  ·omega
  ·omega
theorem mg_norm {t : Nat} : dF fS t = 0 ∨ 2^23 ≤ mgF fS t := by
 by_cases c : t / hdF fS = 0
 ·left; unfold dF; rw [c]
 ·right; unfold mgF; rw [if_neg c, hS]; omega
theorem sum_pr {X Y : Int} {i j s : Nat} (hX : X.natAbs = nF fS i) (hY : Y.natAbs = nF fS j) (hij : dF fS j ≤ dF fS i) (hrep : ∀ v, nF fD v ≤ 2^KK * (2 * (nF fS fS.inf)) → v ≤ fD.inf) (hi : i ≤ fS.inf) (hj : j ≤ fS.inf)
  (a : Nst fD 0 ((X + Y).natAbs * 2^KK) s) (hs : s < fD.inf) : ∀ t, md fS 0 t * 2^KK = 2 * nF fD s → md fS 0 t * 2^KK * 1 = 2 * ((X + Y).natAbs * 2^KK) := by
 have mi := mg_lt1 tS i
 have mj := mg_lt1 tS j
 rw [hS] at mi mj
 have bi := nF_le tS hi
 have bj := nF_le tS hj
 have dX : 2^(dF fS j) ∣ X.natAbs := by rw [hX]; unfold nF; exact Nat.dvd_trans (Nat.pow_dvd_pow 2 hij) (Nat.dvd_mul_left _ _)
 have dY : 2^(dF fS j) ∣ Y.natAbs := by rw [hY]; unfold nF; exact Nat.dvd_mul_left _ _
 have dV : 2^(dF fS j) ∣ (X + Y).natAbs := by
  have kX : ((2^(dF fS j) : Nat) : Int) ∣ X := Int.natAbs_dvd_natAbs.1 (by rw [Int.natAbs_natCast]; exact dX)
  have kY : ((2^(dF fS j) : Nat) : Int) ∣ Y := Int.natAbs_dvd_natAbs.1 (by rw [Int.natAbs_natCast]; exact dY)
  have := Int.natAbs_dvd_natAbs.2 (Int.dvd_add kX kY)
  rwa [Int.natAbs_natCast] at this
 by_cases c : dF fS i ≤ dF fS j + 28
 ·obtain ⟨q, hq⟩ := dV
  have hq2 : q ≤ 2^53 := by
   have t : (X + Y).natAbs ≤ X.natAbs + Y.natAbs := Int.natAbs_add_le ..
   rw [hX, hY] at t
   unfold nF at t
   have p := Nat.two_pow_pos (dF fS j)
   have p1 : 2^(dF fS i) ≤ 2^28 * 2^(dF fS j) := by rw [← Nat.pow_add]; exact Nat.pow_le_pow_right (by decide) (by omega)
   have p2 : mgF fS i * 2^(dF fS i) ≤ 2^24 * (2^28 * 2^(dF fS j)) := Nat.mul_le_mul (by omega) p1
   have p3 : mgF fS j * 2^(dF fS j) ≤ 2^24 * 2^(dF fS j) := Nat.mul_le_mul_right _ (by omega)
   have p4 : 2^(dF fS j) * q ≤ 2^(dF fS j) * 2^53 := by rw [← hq, Nat.mul_comm _ (2^53)]; omega
   exact Nat.le_of_mul_le_mul_left p4 p
  obtain ⟨v, hv⟩ := rep_of' tD (dF fS j + KK) q (by rw [hD]; omega)
  have ev : nF fD v = (X + Y).natAbs * 2^KK := by rw [hv, hq, Nat.pow_add]; ac_rfl
  refine rep_pr a (hrep v ?_) ev
  rw [ev, Nat.mul_comm]
  refine Nat.mul_le_mul_left _ ?_
  have : (X + Y).natAbs ≤ X.natAbs + Y.natAbs := Int.natAbs_add_le ..
  omega
 ·intro t e
  exfalso
  have k := KK_eq
  obtain ⟨z, hz⟩ := rep_of' tD (dF fS i + KK) (mgF fS i) (by rw [hD]; omega)
  have n1 := near tD a hs z
  have ez : nF fD z = X.natAbs * 2^KK := by rw [hz, hX]; unfold nF; rw [Nat.pow_add, Nat.mul_assoc]
  rw [ez] at n1
  rw [md_odd tS] at e
  obtain ⟨K1, hK1⟩ : ∃ K1, KK = K1 + 1 := ⟨KK - 1, by omega⟩
  have e2 : nF fD s = (2 * mgF fS t + 1) * 2^(dF fS t) * 2^K1 := by
   rw [hK1, Nat.pow_succ] at e
   have : (2 * mgF fS t + 1) * 2^(dF fS t) * (2^K1 * 2) = 2 * ((2 * mgF fS t + 1) * 2^(dF fS t) * 2^K1) := by ac_rfl
   omega
  rw [e2] at n1
  have p := Nat.two_pow_pos K1
  have t1 : ds ((2 * mgF fS t + 1) * 2^(dF fS t)) (2 * X.natAbs) ≤ 4 * Y.natAbs := by
   have y1 : ds ((X + Y).natAbs) X.natAbs ≤ Y.natAbs := by unfold ds; omega
   have sc : ∀ A B P : Nat, ds (A * P) (B * P) = ds A B * P := fun A B P => by unfold ds; rw [Nat.add_mul, Nat.sub_mul, Nat.sub_mul]
   have q1 : 2^KK = 2 * 2^K1 := by rw [hK1, Nat.pow_succ']
   rw [q1] at n1
   have q2 : ∀ A, A * (2 * 2^K1) = (2 * A) * 2^K1 := fun A => by ac_rfl
   rw [q2, q2, sc, sc] at n1
   have n2 := Nat.le_of_mul_le_mul_right n1 p
   unfold ds at *
   omega
  rw [hX, hY] at t1
  have l := mg_lt2 tS t
  have e24 : fS.man = 24 := by decide
  rw [e24] at l
  have q3 : 2 * nF fS i = mgF fS i * 2^(dF fS i + 1) := by unfold nF; rw [Nat.pow_succ]; ac_rfl
  rw [q3] at t1
  have nm : 2^23 ≤ mgF fS i := (mg_norm (t := i)).resolve_left (by omega)
  refine near_far (by omega) mg_norm nm (by omega) (by omega) t1 ?_
  have p1 : nF fS j < 2^24 * 2^(dF fS j) := Nat.mul_lt_mul_of_pos_right (by omega) (Nat.two_pow_pos _)
  have p2 : 2^29 * 2^(dF fS j) ≤ 2^(dF fS i) := by rw [← Nat.pow_add]; exact Nat.pow_le_pow_right (by decide) (by omega)
  omega
end Go.Proofs.YtokoadgahflafaaGreatDoor.Thru
