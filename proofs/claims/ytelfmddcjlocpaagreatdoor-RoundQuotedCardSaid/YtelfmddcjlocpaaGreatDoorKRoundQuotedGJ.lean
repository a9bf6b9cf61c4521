/- nat.Trail and nat.Shr on naturals of any length. Conditions: at most 8192 limbs; math/bits' table is laid. -/
import Derived.Test.YtelfmddcjlocpaaGreatDoorKRoundQuotedGI
import Derived.Test.YtelfmddcjlocpaaGreatDoorKRoundQuotedPxA
import Derived.StillTailTactics
namespace Go.Proofs.YtelfmddcjlocpaaGreatDoor.GJ
open Go.RowKit Go.Proofs.YtelfmddcjlocpaaGreatDoorW.PrintWords Go.Proofs.YtelfmddcjlocpaaGreatDoorW.PrintMore Go.Proofs.YtelfmddcjlocpaaGreatDoorW.PrintLast Go.Proofs.YtelfmddcjlocpaaGreatDoor.Num Go.Proofs.YtelfmddcjlocpaaGreatDoor.Ref Go.Proofs.YtelfmddcjlocpaaGreatDoor.GBase Go.Proofs.YtelfmddcjlocpaaGreatDoor.GTab Go.Proofs.YtelfmddcjlocpaaGreatDoor.GTh Go.Proofs.YtelfmddcjlocpaaGreatDoor.GA Go.Proofs.YtelfmddcjlocpaaGreatDoor.GB Go.Proofs.YtelfmddcjlocpaaGreatDoor.GC Go.Proofs.YtelfmddcjlocpaaGreatDoor.GG Go.Proofs.YtelfmddcjlocpaaGreatDoor.GH Go.Proofs.YtelfmddcjlocpaaGreatDoor.GI
theorem ctz_spec {n : Nat} (h0 : n ≠ 0) (hn : n < 18446744073709551616) : ∃ m, n = 2^(Lib.ctz 64 n) * (2 * m + 1) ∧ Lib.ctz 64 n < 64 := by
 have e : Lib.ctz 64 n = Lib.ctzFrom 64 n := by simp [Lib.ctz, h0]
 rw [e]
 exact Lib.ctzFrom_spec 64 n (by omega) hn
def Tz (x t : Nat) : Prop := ∃ m, x = 2^t * (2 * m + 1)
theorem tz_uniq {x s t : Nat} (h : Tz x s) (h' : Tz x t) : s = t := by
 have key : ∀ {s t : Nat}, Tz x s → Tz x t → s < t → False := by
  intro s t ⟨m, e⟩ ⟨m', e'⟩ hlt
  obtain ⟨d, rfl⟩ : ∃ d, t = s + (d + 1) := ⟨t - s - 1, by omega⟩
  rw [e, Nat.pow_add, Nat.mul_assoc] at e'
  have := Nat.eq_of_mul_eq_mul_left (Nat.two_pow_pos s) e'
  rw [Nat.pow_succ, Nat.mul_comm (2^d) 2, Nat.mul_assoc] at this
  omega
 rcases Nat.lt_trichotomy s t with c | c | c
 ·exact (key h h' c).elim
 ·exact c
 ·exact (key h' h c).elim
theorem tz_limb {x j : Nat} (hz : x % pw j = 0) (hd : dw x j ≠ 0) : Tz x (64 * j + Lib.ctz 64 (dw x j)) := by
 obtain ⟨m, hm, hs⟩ := ctz_spec hd (dw_lt x j)
 generalize Lib.ctz 64 (dw x j) = s at *
 obtain ⟨u, hu⟩ : ∃ u, 64 = s + (u + 1) := ⟨64 - s - 1, by omega⟩
 have e1 : x = pw j * (x / pw j) := by have := Nat.mod_add_div x (pw j); omega
 have e2 := div_succ x j
 have e3 : 18446744073709551616 = 2^s * (2^u * 2) := by rw [← e64, hu, Nat.pow_add, Nat.pow_succ]
 refine ⟨m + 2^u * (x / pw (j + 1)), ?_⟩
 rw [Nat.pow_add]
 conv => lhs; rw [e1, e2, hm, e3]
 have : 2^s * (2 * m + 1) + 2^s * (2^u * 2) * (x / pw (j + 1)) = 2^s * (2 * (m + 2^u * (x / pw (j + 1))) + 1) := by
  rw [Nat.mul_assoc, ← Nat.mul_add]
  congr 1
  rw [Nat.mul_add]
  have : 2^u * 2 * (x / pw (j + 1)) = 2 * (2^u * (x / pw (j + 1))) := by ac_rfl
  omega
 rw [this, ← Nat.mul_assoc]
 rfl
theorem trail_any (w : World) (A : Option Addr) (c x t : Nat) (h : Nt w A c x) (hl : nl x ≤ 8192) (ht : Tz x t) (hT : Tab w) : Calls Tryz.prog 92 #[.slice A (nl x) c] w fun e w' => e = .returned (.int .i64 (t : Int)) ∧ w' = w := by
 have x0 : x ≠ 0 := by
  obtain ⟨m, rfl⟩ := ht
  exact Nat.mul_ne_zero (Nat.pos_iff_ne_zero.1 (Nat.two_pow_pos t)) (by omega)
 have p := nl_pos x0
 rcases h.row with ⟨_, e, _⟩ | ⟨G, o, rfl, R⟩
 ·omega
 have HR := Lib.hid R
 have HT := Lib.hid hT
 have HX := Lib.hid (And.intro ht x0)
 generalize hn : nl x = n at *
 have HN := Lib.hid (And.intro hn hl)
 clear h ht hT x0 p R hn
 go_enter Tryz.func92, Tryz.ntmps92
 go_wp2_with fail
 go_loopg [6] n (fun g i wr => ∃ j, j ≤ n ∧ g = n - j ∧ i = .int .i64 j ∧ x % pw j = 0 ∧ wr = w)
 case atStart => exact ⟨0, Nat.zero_le _, rfl, rfl, by rw [pw_zero, Nat.mod_one], rfl⟩
 case round =>
  obtain ⟨j, hj, rfl, rfl, hz, rfl⟩ := hrel
  have hlt : j < n := by
   by_cases c0 : j < n
   ·exact c0
   ·exfalso
    have e : j = n := by omega
    rw [e, ← HN.out.1, Nat.mod_eq_of_lt (nl_lt x)] at hz
    exact HX.out.2 hz
  have l1 : decide ((j : Int) < (n : Int)) = true := decide_eq_true (by omega)
  have l2 : (j : Int) < (n : Int) := by omega
  have za := HR.out.cell j hlt
  have hz' := Lib.hid hz
  by_cases c1 : dw x j = 0
  ·have HZ := Lib.hid (show x % pw (j + 1) = 0 by rw [mod_succ, hz, c1, Nat.mul_zero])
   rw [c1] at za
   have HJ := Lib.hid (And.intro hlt hj)
   clear c1 hz hj hlt
   go_wp2_with fail
   go_roundg (n - (j + 1))
   case measure => have := HJ.out.1; omega
   case rel => exact ⟨j + 1, HJ.out.1, rfl, by go_num, HZ.out, rfl⟩
  ·have e1 := tz_uniq HX.out.1 (tz_limb hz c1)
   have hd := dw_lt x j
   have CT := Lib.hid (tz_any (dw x j) hd c1 wr HT.out)
   have hs := (Lib.lowest_bit 64 (dw x j) c1 (by rw [e64]; exact hd)).2
   generalize dw x j = d at *
   generalize Lib.ctz 64 d = s at *
   have q1 : ((d : Int) == 0) = false := by simpa using c1
   have q2 : ((d : Int) != 0) = true := by simpa using c1
   have q3 : IntKind.i64.wrap (64 * (j : Int)) = 64 * (j : Int) := IntWalk.i64_in _ (by omega)
   have q4 : IntKind.i64.wrap (64 * (j : Int) + (s : Int)) = (t : Int) := by rw [IntWalk.i64_in _ (by omega)]; omega
   have q5 : IntKind.i64.wrap (s : Int) = (s : Int) := IntWalk.i64_in _ (by omega)
   clear c1 hz hj hlt e1 hd hs
   go_wp2_with fail
   refine CT.out.mono ?_
   rintro e w1 ⟨rfl, rfl⟩
   go_wp2_with fail
   go_ret
   exact ⟨rfl, rfl⟩
theorem shr_limb {x p k i : Nat} (hk : k < 64) : dw (x / (pw p * 2^k)) i = dw x (p + i) / 2^k + dw x (p + i + 1) * 2^(64 - k) % 18446744073709551616
  ∧ dw x (p + i) / 2^k < 2^(64 - k) ∧ (dw x (p + i + 1) * 2^(64 - k) % 18446744073709551616) % 2^(64 - k) = 0 ∧ dw x (p + i) / 2^k + dw x (p + i + 1) * 2^(64 - k) % 18446744073709551616 < 18446744073709551616 := by
 have eW : 18446744073709551616 = 2^(64 - k) * 2^k := by rw [← Nat.pow_add, show 64 - k + k = 64 by omega, e64]
 have h1 : dw x (p + i) / 2^k < 2^(64 - k) := Nat.div_lt_of_lt_mul (by rw [Nat.mul_comm, ← eW]; exact dw_lt _ _)
 have h2 : dw x (p + i + 1) * 2^(64 - k) % 18446744073709551616 = 2^(64 - k) * (dw x (p + i + 1) % 2^k) := by rw [eW, Nat.mul_comm (dw x (p + i + 1)), Nat.mul_mod_mul_left]
 have h3 : dw x (p + i + 1) % 2^k + 1 ≤ 2^k := Nat.mod_lt _ (Nat.two_pow_pos k)
 have h4 : dw x (p + i) / 2^k + dw x (p + i + 1) * 2^(64 - k) % 18446744073709551616 < 18446744073709551616 := by
  rw [h2]
  have := Nat.mul_le_mul_left (2^(64 - k)) h3
  rw [Nat.mul_add, ← eW] at this
  omega
 refine ⟨?_, h1, by rw [h2, Nat.mul_mod_right], h4⟩
 have e1 : x / (pw p * 2^k) / pw i = x / pw (p + i) / 2^k := by
  rw [pw_add, Nat.div_div_eq_div_mul, Nat.div_div_eq_div_mul]
  congr 1
  ac_rfl
 have e2 := div_succ x (p + i)
 have e3 := div_succ x (p + i + 1)
 show x / (pw p * 2^k) / pw i % 18446744073709551616 = _
 rw [e1]
 have e4 : x / pw (p + i) / 2^k = dw x (p + i) / 2^k + dw x (p + i + 1) * 2^(64 - k) + 18446744073709551616 * (2^(64 - k) * (x / pw (p + i + 1 + 1))) := by
  have : x / pw (p + i) = dw x (p + i) + 2^k * (2^(64 - k) * (dw x (p + i + 1) + 18446744073709551616 * (x / pw (p + i + 1 + 1)))) := by
   rw [← Nat.mul_assoc, Nat.mul_comm (2^k), ← eW, ← e3]; exact e2
  rw [this, Nat.add_mul_div_left _ _ (Nat.two_pow_pos k), Nat.mul_add, ← Nat.add_assoc, Nat.mul_comm (2^(64 - k)) (dw x (p + i + 1))]
  congr 1
  ac_rfl
 rw [e4, Nat.add_mul_mod_self_left, Nat.add_mod, Nat.mod_eq_of_lt (show dw x (p + i) / 2^k < 18446744073709551616 by omega), Nat.mod_eq_of_lt h4]
theorem nl_shr {x p k : Nat} (hp : p < nl x) : x / (pw p * 2^k) < pw (nl x - p) := by
 have h1 := nl_lt x
 have e : nl x = p + (nl x - p) := by omega
 rw [e, pw_add] at h1
 rw [← Nat.div_div_eq_div_mul]
 exact Nat.lt_of_le_of_lt (Nat.div_le_self _ _) (Nat.div_lt_of_lt_mul h1)
theorem shr_q (n s p k N t : Nat) (hp0 : p = n / 64) (hk0 : k = n % 64) (hN : N = s - p) (ht : t = 63 - k) (hl : s ≤ 8192) (hlim : n / 64 < s) :
  decide ((n : Int) < 0) = false ∧ (n : Int) / 64 = (p : Int) ∧ (n : Int) % 64 = (k : Int) ∧ wrap64 (p : Int) = (p : Int) ∧ IntKind.i64.wrap (p : Int) = (p : Int) ∧ decide ((s : Int) ≤ (p : Int)) = false ∧ decide (s ≤ p) = false
  ∧ IntKind.i64.wrap ((s : Int) - (p : Int)) = (N : Int) ∧ wrap64 ((s : Int) - (p : Int)) = (N : Int) ∧ IntKind.i64.wrap (63 - (k : Int)) = (t : Int) ∧ min t 64 = t ∧ min k 64 = k ∧ N < 1099511627776 ∧ (p < s ∧ s ≤ 8192) :=
 ⟨decide_eq_false (by omega), by omega, by omega, w64 (by omega) (by omega), IntWalk.i64_in _ (by omega), decide_eq_false (by omega), decide_eq_false (by omega), by rw [IntWalk.i64_in _ (by omega)]; omega, by rw [w64 (by omega) (by omega)]; omega, by rw [IntWalk.i64_in _ (by omega)]; omega, by omega, by omega, by omega, by omega⟩
set_option maxRecDepth 100000 in
set_option maxHeartbeats 400000 in
theorem shr_any (w : World) (A : Option Addr) (c x n : Nat) (h : Nt w A c x) (hl : nl x ≤ 8192) (hlim : n / 64 < nl x) : Calls Tryz.prog 82 #[.slice A (nl x) c, .int .i64 (n : Int)] w fun e w' => ∃ v, e = .returned (.tuple #[v, .int .i64 0]) ∧ Ans w w' v (x / 2^n) := by
 have HF := Lib.hid (form_any w A c x h hl)
 obtain ⟨p, hp0⟩ : ∃ p, p = n / 64 := ⟨_, rfl⟩
 obtain ⟨k, hk0⟩ : ∃ k, k = n % 64 := ⟨_, rfl⟩
 have hk : k < 64 := by omega
 have en : 2^n = pw p * 2^k := by unfold pw; rw [← Nat.pow_add, show 64 * p + k = n by omega]
 rw [en]
 rcases h.row with ⟨_, e, _⟩ | ⟨G, o, rfl, R⟩
 ·omega
 have HR := Lib.hid R
 have hlt := nl_shr (x := x) (p := p) (k := k) (by omega)
 have hnl : nl (x / (pw p * 2^k)) ≤ 8192 := Nat.le_trans (nl_mono (Nat.div_le_self _ _)) hl
 generalize hs : nl x = s at *
 obtain ⟨N, hN⟩ : ∃ N, N = s - p := ⟨_, rfl⟩
 rw [← hN] at hlt
 obtain ⟨y, hy⟩ : ∃ y, y = x / (pw p * 2^k) := ⟨_, rfl⟩
 rw [← hy] at hlt hnl
 obtain ⟨t, ht⟩ : ∃ t, t = 63 - k := ⟨_, rfl⟩
 have HS := Lib.hid (And.intro hs (And.intro hN (And.intro hlt (And.intro hnl (And.intro hy (And.intro hk ht))))))
 rw [← hy]
 obtain ⟨q0, q4, q5, qp, qp', q6, q6', q7, q7', q8, q9, q10, hbig, hsp0⟩ := shr_q n s p k N t hp0 hk0 hN ht hl hlim
 have hsp := Lib.hid hsp0
 clear h hlim hp0 hk0 hk en R hlt hnl hs hN hy ht hl hsp0
 go_enter Tryz.func82, Tryz.ntmps82
 go_wp2_with fail
 refine HF.out.mono ?_
 rintro e w1 ⟨rfl, rfl⟩
 go_wp2_with (rw [make_row _ hbig]; go_simp)
 have O0 := Lib.hid (Own.made w1 N)
 have hne : G ≠ w1.heap.size := by
  have : G < w1.heap.size := World.block_lt_of_cell? _ _ (HR.out.cell 0 (by have := hsp.out; omega))
  omega
 go_loopg [30] N (fun m i wr => ∃ j, j ≤ N ∧ m = N - j ∧ i = .int .i64 j ∧ Own w1 wr w1.heap.size N (y % pw j))
 case atStart => exact ⟨0, Nat.zero_le _, rfl, rfl, by rw [pw_zero, Nat.mod_one]; exact O0.out⟩
 case round =>
  obtain ⟨i, hi, rfl, rfl, ho⟩ := hrel
  have O := Lib.hid ho
  clear ho O0
  by_cases c0 : i < N
  ·have hsp2 := hsp.out
   have hN := HS.out.2.1
   obtain ⟨j, hj⟩ : ∃ j, j = p + i := ⟨_, rfl⟩
   obtain ⟨j1, hj1⟩ : ∃ j1, j1 = j + 1 := ⟨_, rfl⟩
   have st := shr_limb (x := x) (p := p) (k := k) (i := i) HS.out.2.2.2.2.2.1
   rw [← HS.out.2.2.2.2.1, ← hj, ← hj1] at st
   have za := (HR.out.next O.out.below).cell j (by omega)
   have zs := O.out.cell (j := i) c0
   have fs := O.out.frozen (j := i)
   have z0 : dw (y % pw i) i = 0 := dw_out (Nat.mod_lt _ (pw_pos i))
   have l1 : decide ((i : Int) < (N : Int)) = true := decide_eq_true (by omega)
   have l2 : (i : Int) < (N : Int) := by omega
   have q11 : IntKind.i64.wrap ((p : Int) + (i : Int)) = (j : Int) := by rw [IntWalk.i64_in _ (by omega)]; omega
   have q12 : IntKind.i64.wrap ((j : Int) + 1) = (j1 : Int) := by rw [IntWalk.i64_in _ (by omega)]; omega
   have l3 : (j : Int) < (s : Int) := by omega
   have l4 : j < s := by omega
   obtain ⟨lo, hlo⟩ : ∃ lo, dw x j / 2^k = lo := ⟨_, rfl⟩
   obtain ⟨hi', hhi⟩ : ∃ hi', dw x j1 * 2^(64 - k) % 18446744073709551616 = hi' := ⟨_, rfl⟩
   have e1 : ((dw x j : Nat) : Int) / 2^k = (lo : Int) := by rw [← hlo]; push_cast; rfl
   rw [hlo, hhi] at st
   have ll : lo < 18446744073709551616 := by omega
   have O1 := Lib.hid (O.out.put (i := i) (y := y % pw i + lo * pw i) ll (by rw [z0, Nat.zero_mul, Nat.add_zero]))
   rw [z0] at zs
   by_cases c1 : j1 < s
   ·have l5 : decide ((j1 : Int) < (s : Int)) = true := decide_eq_true (by omega)
    have l6 : (j1 : Int) < (s : Int) := by omega
    have zb0 := (HR.out.next O.out.below).cell j1 (by omega)
    have zb := (World.cell?_setCell_other wr ⟨w1.heap.size, i, none⟩ ⟨G, o + j1, none⟩ (.int .u64 (lo : Int)) (fun e => hne (congrArg Addr.block e).symm)).trans zb0
    have zs1 := O1.out.cell (j := i) c0
    have fs1 := O1.out.frozen (j := i)
    have zz : dw (y % pw i + lo * pw i) i = lo := dw_at z0 ll
    rw [zz] at zs1
    obtain ⟨r, hr⟩ : ∃ r, r = lo + hi' := ⟨_, rfl⟩
    have lr : r < 18446744073709551616 := by omega
    have OE := Lib.hid (show (y % pw i + lo * pw i) + r * pw i = y % pw (i + 1) + dw (y % pw i + lo * pw i) i * pw i by rw [zz, mod_succ, st.1, hr, Nat.add_mul, Nat.mul_add, Nat.mul_comm (pw i) lo, Nat.mul_comm (pw i) hi']; omega)
    have ZR := Lib.hid (And.intro zz lr)
    obtain ⟨u, hu⟩ : ∃ u, u = dw x j1 * 2 % 18446744073709551616 := ⟨_, rfl⟩
    have e2 : IntKind.u64.wrap (((dw x j1 : Nat) : Int) * 2) = (u : Int) := by
     rw [IntKind.wrap_u64, hu]; omega
    have e3 : IntKind.u64.wrap ((u : Int) * 2^t) = (hi' : Int) := by
     rw [IntKind.wrap_u64, hu, ← hhi]
     have e4 : ((u : Int) * 2^t) = ((u * 2^t : Nat) : Int) := by push_cast; rfl
     rw [← hu, e4, hu]
     have e5 : 2^(64 - k) = 2 * 2^t := by
      have := HS.out.2.2.2.2.2
      rw [show 64 - k = t + 1 by omega, Nat.pow_succ, Nat.mul_comm]
     rw [e5, ← Nat.mul_assoc]
     have e6 : dw x j1 * 2 % 18446744073709551616 * 2^t % 18446744073709551616 = dw x j1 * 2 * 2^t % 18446744073709551616 := by
      rw [Nat.mul_mod, Nat.mod_mod, ← Nat.mul_mod]
     omega
    have e7 : Go.bits .or .u64 (lo : Int) (hi' : Int) = (r : Int) := by
     rw [hr, u64_or_nat lo hi' ll (by omega), Nat.or_comm, nat_join (64 - k) hi' lo st.2.2.1 st.2.1, Nat.add_comm]
    have HJ := Lib.hid c0
    generalize dw x j = d1 at *
    generalize dw x j1 = d2 at *
    clear st hsp2 hN hj hj1 z0 hlo hhi ll c0 c1 zz hr lr hu hi zb0
    go_wp2_with fail
    generalize wr.setCell ⟨w1.heap.size, i, none⟩ (.int .u64 (lo : Int)) = w4 at *
    go_still_tail 16, (by kernel_rfl)
    change wpList _ _ _ _ _ w4.drew
    have O1 := Lib.hid (O1.out.next (Below.refl _ _).drew)
    have zs1 := O1.out.cell (j := i) HJ.out
    have fs1 := O1.out.frozen (j := i)
    rw [ZR.out.1] at zs1
    have O2 := Lib.hid (O1.out.put ZR.out.2 OE.out)
    generalize w4.drew = w5 at *
    go_wp2_with fail
    go_roundg (N - (i + 1))
    case measure => have := HJ.out; omega
    case rel => exact ⟨i + 1, HJ.out, rfl, by go_num, O2.out⟩
   ·have l5 : decide ((j1 : Int) < (s : Int)) = false := decide_eq_false (by omega)
    have l7 : decide (j1 < s) = false := decide_eq_false c1
    have hx0 : dw x j1 = 0 := dw_out' (nl_le_iff.1 (Nat.le_of_eq HS.out.1)) (by omega)
    have ey : y % pw i + lo * pw i = y % pw (i + 1) := by
     rw [hx0, Nat.zero_mul, Nat.zero_mod] at hhi
     rw [mod_succ, st.1, ← hhi, Nat.add_zero, Nat.mul_comm (pw i)]
    rw [ey] at O1
    have HJ := Lib.hid c0
    generalize dw x j = d1 at *
    clear st hsp2 hN hj hj1 z0 hlo hhi ll c0 c1 hx0 ey hi
    go_wp2_with fail
    go_roundg (N - (i + 1))
    case measure => have := HJ.out; omega
    case rel => exact ⟨i + 1, HJ.out, rfl, by go_num, O1.out⟩
  ·obtain rfl : i = N := by omega
   have l1 : decide ((i : Int) < (i : Int)) = false := decide_eq_false (by omega)
   have O := O.out
   rw [Nat.mod_eq_of_lt HS.out.2.2.1] at O
   have R := Lib.hid (Rw.mk (A := some ⟨w1.heap.size, 0, none⟩) (c := i) (Nat.le_refl _) (.inr ⟨_, _, rfl, O.at HS.out.2.2.1⟩))
   have HT := Lib.hid (told_any wr _ _ _ _ R.out hbig HS.out.2.2.2.1)
   have B := Lib.hid O.below
   have OO := Lib.hid O
   have NN := Lib.hid (And.intro (nl_le_iff.2 HS.out.2.2.1) hbig)
   clear O c0 hi
   go_wp2_with fail
   refine HT.out.mono ?_
   rintro e w5 ⟨rfl, rfl⟩
   go_wp2_with fail
   go_ret2
   exact ⟨_, rfl, ⟨_, _, rfl, OO.out, NN.out.1, NN.out.2⟩⟩
end Go.Proofs.YtelfmddcjlocpaaGreatDoor.GJ
