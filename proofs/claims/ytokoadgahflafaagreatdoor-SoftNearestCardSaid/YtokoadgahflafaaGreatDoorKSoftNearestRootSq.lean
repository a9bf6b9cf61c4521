/- The root of a rounded square is the number again: plain Lean over sizes. Conditions: formats; the square is normal. -/
import Derived.Test.YtokoadgahflafaaGreatDoorKSoftNearestSq
set_option linter.unusedVariables false
namespace Go.Proofs.YtokoadgahflafaaGreatDoor.RootSq
open Go.Proofs.YtokoadgahflafaaGreatDoor.BinLaw Go.Proofs.YtokoadgahflafaaGreatDoor.Ref Go.Proofs.YtokoadgahflafaaGreatDoor.Fm8 Go.Proofs.YtokoadgahflafaaGreatDoor.Rnd Go.Proofs.YtokoadgahflafaaGreatDoor.Sq
theorem sq1 (x : Nat) : (2 * x + 1) * (2 * x + 1) = 4 * (x * x) + 4 * x + 1 := by
 simp only [Nat.mul_add, Nat.add_mul, Nat.mul_one, Nat.one_mul]
 have : 2 * x * (2 * x) = 4 * (x * x) := by rw [show (4 : Nat) = 2 * 2 from rfl]; ac_rfl
 omega
theorem core_up {m u H P : Nat} (h1 : (2 * m - 1) * P ≤ 2 * (u * u)) (hm : H ≤ m) (hu : u ≤ 2 * H - 1) (h0 : 1 ≤ H) (hP : 4 * (m * P) ≤ 4 * (u * u) + 2 * P) : 4 * (m * P) < (2 * u + 1) * (2 * u + 1) := by
 have k : P ≤ 2 * u := by
  refine Nat.le_of_not_lt fun c => ?_
  have a1 : (2 * H - 1) * P ≤ (2 * m - 1) * P := Nat.mul_le_mul_right _ (by omega)
  have a2 : u * u ≤ u * (2 * H - 1) := Nat.mul_le_mul_left _ hu
  have a3 : (2 * H - 1) * (2 * u + 1) ≤ (2 * H - 1) * P := Nat.mul_le_mul_left _ c
  rw [Nat.mul_add, Nat.mul_one, Nat.mul_comm (2 * H - 1) (2 * u), Nat.mul_assoc] at a3
  omega
 rw [sq1]
 omega
theorem pow_lt_le {a b : Nat} (h : 2^a < 2^(b + 1)) : 2^a ≤ 2^b := Nat.pow_le_pow_right (by decide) (by
 refine Nat.le_of_not_lt fun c => ?_
 have := Nat.pow_le_pow_right (n := 2) (by decide) (show b + 1 ≤ a by omega)
 omega)
theorem core_P {m u i j : Nat} (h1 : (2 * m - 1) * 2^j ≤ 2 * (u * u)) (hm : 2^i ≤ m) (hu : u ≤ 2 * 2^i - 1) : 2^j ≤ 2 * 2^i := by
 have hi := Nat.two_pow_pos i
 have e : 2 * 2^i = 2^(i + 1) := by rw [Nat.pow_succ, Nat.mul_comm]
 rw [e]
 refine pow_lt_le ?_
 rw [Nat.pow_succ 2 (i + 1), ← e]
 refine Nat.lt_of_not_le fun c => ?_
 have a1 : (2 * 2^i - 1) * 2^j ≤ (2 * m - 1) * 2^j := Nat.mul_le_mul_right _ (by omega)
 have a2 : u * u ≤ (2 * 2^i - 1) * (2 * 2^i - 1) := Nat.mul_self_le_mul_self hu
 have a3 : (2 * 2^i - 1) * (2 * 2^i * 2) ≤ (2 * 2^i - 1) * 2^j := Nat.mul_le_mul_left _ c
 generalize 2 * 2^i = y at *
 obtain ⟨z, rfl⟩ : ∃ z, y = z + 1 := ⟨y - 1, by omega⟩
 rw [Nat.add_sub_cancel] at *
 have : z * ((z + 1) * 2) = 2 * (z * z) + 2 * z := by rw [Nat.add_mul, Nat.mul_add, Nat.mul_comm z (z * 2), Nat.mul_right_comm]; omega
 omega
theorem core_dn {m u H P : Nat} (hP : P ≤ 2 * H) (hu : H < u) (h2 : 2 * (u * u) ≤ (2 * m + 1) * P) : (2 * u - 1) * (2 * u - 1) < 4 * (m * P) := by
 obtain ⟨w, rfl⟩ : ∃ w, u = w + 1 := ⟨u - 1, by omega⟩
 have e : 2 * (w + 1) - 1 = 2 * w + 1 := by omega
 rw [e, sq1]
 have e2 : (w + 1) * (w + 1) = w * w + 2 * w + 1 := by simp only [Nat.mul_add, Nat.add_mul, Nat.mul_one, Nat.one_mul]; omega
 have e3 : (2 * m + 1) * P = 2 * (m * P) + P := by rw [Nat.add_mul, Nat.one_mul, Nat.mul_assoc]
 rw [e2, e3] at h2
 omega
theorem core_eq {m i j : Nat} (hj : j ≤ 2 * i) (h1 : (2 * m - 1) * 2^j ≤ 2 * (2^i * 2^i)) (h2 : 2 * (2^i * 2^i) ≤ (2 * m + 1) * 2^j) (m0 : m ≠ 0) : m * 2^j = 2^i * 2^i := by
 obtain ⟨c, hc⟩ : ∃ c, 2^i * 2^i = c * 2^j := ⟨2^(2 * i - j), by rw [← Nat.pow_add, ← Nat.pow_add]; congr 1; omega⟩
 rw [hc] at h1 h2 ⊢
 have p := Nat.two_pow_pos j
 rw [← Nat.mul_assoc] at h1 h2
 have a := Nat.le_of_mul_le_mul_right h1 p
 have b := Nat.le_of_mul_le_mul_right h2 p
 congr 1
 omega
theorem root_sq {f : Int} {F : Fmt} (h : Fm f F) {s t g : Nat} (hg : g = (-F.low).toNat) (s0 : s ≠ 0) (hs : s < F.inf) (ht : Nst F g (nF F s * nF F s) t) (t1 : hdF F ≤ t) (t2 : t < F.inf) : Nr F (nF F t * 2^g) 1 s := by
 obtain ⟨k0, k1, k2, k3, k4, km, k5, k6, k7⟩ := fm_hd h
 obtain ⟨i, hi⟩ : ∃ i, i = F.man - 1 := ⟨_, rfl⟩
 rw [← hi] at km
 have hfm : (F.man = 24 ∧ F.low = -149) ∨ (F.man = 53 ∧ F.low = -1074) := fm_man h
 obtain ⟨u, hu⟩ : ∃ u, u = mgF F s := ⟨_, rfl⟩
 obtain ⟨e, he⟩ : ∃ e, e = dF F s := ⟨_, rfl⟩
 obtain ⟨m, hm⟩ : ∃ m, m = mgF F t := ⟨_, rfl⟩
 obtain ⟨d, hd⟩ : ∃ d, d = dF F t := ⟨_, rfl⟩
 have ns : nF F s = u * 2^e := by rw [hu, he]; rfl
 have nt : nF F t = m * 2^d := by rw [hm, hd]; rfl
 have m1 : hdF F ≤ m := by
  rw [hm]; unfold mgF
  rw [if_neg (by
   have : 1 ≤ t / hdF F := (Nat.le_div_iff_mul_le k0).2 (by omega)
   omega)]
  omega
 have m2 : m < 2 * hdF F := by
  rw [hm]; unfold mgF
  have := Nat.mod_lt t k0
  split <;> omega
 have u2 : u < 2 * hdF F := by
  rw [hu]; unfold mgF
  have := Nat.mod_lt s k0
  split <;> omega
 obtain ⟨t', rfl⟩ : ∃ t', t = t' + 1 := ⟨t - 1, by omega⟩
 have r1 : 2 * (nF F s * nF F s) ≤ md F g (t' + 1) := by have := ht.up t2; omega
 have r2 : md F g t' ≤ 2 * (nF F s * nF F s) := by have := ht.dn t' rfl; omega
 have n1 := nF_next h (t' + 1)
 have n2 := nF_next h t'
 have dle : dF F t' ≤ d := by
  rw [hd]; unfold dF
  have : t' / hdF F ≤ (t' + 1) / hdF F := Nat.div_le_div_right (by omega)
  omega
 have pd : 2^(dF F t') ≤ 2^d := Nat.pow_le_pow_right (by decide) dle
 have q1 : 2 * (u * u * 2^(2 * e)) ≤ (2 * m + 1) * 2^(d + g) := by
  have a : md F g (t' + 1) = (2 * m + 1) * 2^(d + g) := by
   unfold md
   rw [n1, nt, ← hd, Nat.pow_add, ← Nat.mul_assoc]
   congr 1
   rw [Nat.add_mul, Nat.one_mul, Nat.mul_assoc 2]
   omega
  rw [a, ns] at r1
  have b : u * 2^e * (u * 2^e) = u * u * 2^(2 * e) := by rw [show 2 * e = e + e by omega, Nat.pow_add]; ac_rfl
  rwa [b] at r1
 have q2 : (2 * m - 1) * 2^(d + g) ≤ 2 * (u * u * 2^(2 * e)) := by
  have a : (2 * m - 1) * 2^(d + g) ≤ md F g t' := by
   unfold md
   rw [Nat.pow_add, ← Nat.mul_assoc]
   refine Nat.mul_le_mul_right _ ?_
   rw [nt] at n2
   rw [Nat.sub_mul, Nat.one_mul, Nat.mul_assoc 2]
   rw [nt]
   omega
  have b : u * 2^e * (u * 2^e) = u * u * 2^(2 * e) := by rw [show 2 * e = e + e by omega, Nat.pow_add]; ac_rfl
  rw [ns, b] at r2
  omega
 clear r1 r2 n1 n2 pd
 have hH : hdF F = 2^i := km
 rw [hH] at m1 m2 u2
 have hj : 2 * e ≤ d + g := by
  refine Nat.le_of_not_lt fun c => ?_
  obtain ⟨c', hc'⟩ : ∃ c', 2 * e = d + g + (c' + 1) := ⟨2 * e - (d + g) - 1, by omega⟩
  rw [hc', Nat.pow_add 2 (d + g), ← Nat.mul_assoc, ← Nat.mul_assoc] at q1
  have q := Nat.le_of_mul_le_mul_right (by rw [Nat.mul_right_comm] at q1; exact q1) (Nat.two_pow_pos (d + g))
  have a1 : 2 * (u * u) * 2 ≤ 2 * (u * u) * 2^(c' + 1) := Nat.mul_le_mul_left _ (by rw [Nat.pow_succ]; have := Nat.two_pow_pos c'; omega)
  have u1 : 2^i ≤ u := by
   have : dF F s ≠ 0 := by rw [← he]; omega
   unfold dF at this
   rw [hu, ← hH]; unfold mgF
   rw [if_neg (by omega)]
   omega
  have a2 : 2^i * 2^i ≤ u * u := Nat.mul_self_le_mul_self u1
  have i2 : 8 * 2^i ≤ 2^i * 2^i := Nat.mul_le_mul_right _ (by
   have : 2^3 ≤ 2^i := Nat.pow_le_pow_right (by decide) (by omega)
   omega)
  have a3 : 2 * (u * u) * 2^(c' + 1) ≤ 2 * m + 1 := q
  omega
 obtain ⟨j, hjj⟩ : ∃ j, d + g = 2 * e + j := ⟨d + g - 2 * e, by omega⟩
 have p2e := Nat.two_pow_pos (2 * e)
 have ec : 2^(d + g) = 2^j * 2^(2 * e) := by rw [hjj, Nat.add_comm, Nat.pow_add]
 have w1 : 2 * (u * u) ≤ (2 * m + 1) * 2^j := by
  rw [ec] at q1
  exact Nat.le_of_mul_le_mul_right (c := 2^(2 * e)) (by rw [Nat.mul_assoc 2, Nat.mul_assoc (2 * m + 1)]; exact q1) p2e
 have w2 : (2 * m - 1) * 2^j ≤ 2 * (u * u) := by
  rw [ec] at q2
  exact Nat.le_of_mul_le_mul_right (c := 2^(2 * e)) (by rw [Nat.mul_assoc 2, Nat.mul_assoc (2 * m - 1)]; exact q2) p2e
 clear q1 q2
 have hgj : e = 0 → 140 ≤ j := by intro e0; omega
 have P1 := core_P w2 m1 (by omega)
 have j1 : j ≤ i + 1 := by
  refine Nat.le_of_not_lt fun c => ?_
  have := Nat.pow_le_pow_right (n := 2) (by decide) (show i + 2 ≤ j by omega)
  rw [Nat.pow_succ, Nat.pow_succ] at this
  have := Nat.two_pow_pos i
  omega
 have e0 : e ≠ 0 := fun c => by have := hgj c; omega
 have sdiv : s / hdF F ≠ 0 ∧ e = s / hdF F - 1 := by
  constructor
  ·intro c; apply e0; rw [he]; unfold dF; omega
  ·rw [he]; rfl
 have uq : u = hdF F + s % hdF F := by rw [hu]; unfold mgF; rw [if_neg sdiv.1]
 have T : nF F (t' + 1) * 2^g = m * 2^j * 2^(2 * e) := by rw [nt, Nat.mul_assoc, ← Nat.pow_add, hjj, Nat.mul_assoc, ← Nat.pow_add, Nat.add_comm (2 * e)]
 have x4 : 4 * (m * 2^j) ≤ 4 * (u * u) + 2 * 2^j := by
  have : (2 * m - 1) * 2^j = 2 * (m * 2^j) - 2^j := by rw [Nat.sub_mul, Nat.one_mul, Nat.mul_assoc]
  omega
 have up : 4 * (m * 2^j) < (2 * u + 1) * (2 * u + 1) := core_up w2 m1 (by omega) (Nat.two_pow_pos i) x4
 have ee : 2^e * 2^e = 2^(2 * e) := by rw [← Nat.pow_add]; congr 1; omega
 refine ⟨Nat.le_of_lt hs, fun _ => .inl ?_, fun v hv => .inl ?_⟩
 ·rw [Nat.mul_one, T]
  have a : md F 0 s = (2 * u + 1) * 2^e := by
   unfold md
   rw [nF_next h, ns, ← he, Nat.pow_zero, Nat.mul_one, Nat.add_mul, Nat.one_mul, Nat.mul_assoc 2]
   omega
  have b : md F 0 s * md F 0 s = (2 * u + 1) * (2 * u + 1) * 2^(2 * e) := by rw [a, ← ee]; ac_rfl
  rw [b, ← Nat.mul_assoc]
  exact Nat.mul_lt_mul_of_pos_right up p2e
 ·rw [Nat.mul_one, T]
  have nv := nF_next h v
  rw [← hv, ns] at nv
  by_cases c : s % hdF F = 0
  ·-- the least of its binade: the square is exact
   have u3 : u = 2^i := by rw [uq, c, hH]; rfl
   rw [u3] at w1 w2
   have ex := core_eq (by omega) w2 w1 (by have := Nat.two_pow_pos i; omega)
   rw [ex]
   have a : md F 0 v < 2 * (u * 2^e) := by
    unfold md
    rw [← hv, ns, Nat.pow_zero, Nat.mul_one]
    have := Nat.two_pow_pos (dF F v)
    omega
   have b := sq_lt a
   have b2 : 2 * (u * 2^e) * (2 * (u * 2^e)) = 4 * (2^i * 2^i * 2^(2 * e)) := by rw [u3, ← ee, show (4 : Nat) = 2 * 2 from rfl]; ac_rfl
   omega
  ·have dv : dF F v = e := by
    rw [sdiv.2]
    unfold dF
    have : v / hdF F = s / hdF F := by
     have a := Nat.div_add_mod s (hdF F)
     have b := Nat.mod_lt s k0
     obtain ⟨Q, hQ⟩ : ∃ Q, Q = s / hdF F := ⟨_, rfl⟩
     rw [← hQ] at a ⊢
     have : v = hdF F * Q + (s % hdF F - 1) := by omega
     rw [this, Nat.mul_add_div k0, Nat.div_eq_of_lt (by omega)]
     omega
    rw [this]
   rw [dv] at nv
   have a : md F 0 v = (2 * u - 1) * 2^e := by
    unfold md
    rw [← hv, ns, Nat.pow_zero, Nat.mul_one, Nat.sub_mul, Nat.one_mul, Nat.mul_assoc 2]
    omega
   have b : md F 0 v * md F 0 v = (2 * u - 1) * (2 * u - 1) * 2^(2 * e) := by rw [a, ← ee]; ac_rfl
   rw [b, ← Nat.mul_assoc]
   have hu3 : 2^i < u := by
    have : 0 < s % hdF F := Nat.pos_of_ne_zero c
    omega
   exact Nat.mul_lt_mul_of_pos_right (core_dn P1 hu3 w1) p2e
end Go.Proofs.YtokoadgahflafaaGreatDoor.RootSq
