/- natmul's rows: the school product, limb by limb. Conditions: rows of at most 16384 limbs. natmul.rows in place. Conditions: rows of at most 16384 limbs; math/bits' table is laid. -/
import Derived.Test.YtokoadgahflafaaGreatDoorKSoftThroughDoubleGM
import Derived.Lib.Mul64
import Derived.Laws.Bits64b
import Derived.WalkKit
import Derived.OwnWalk
import Derived.Deep.QuietTactic
import Derived.BigQuiet
import Derived.Tactics2
section
set_option linter.unusedVariables false
namespace Go.Proofs.YtokoadgahflafaaGreatDoor.GN
open Go.RowKit Go.Proofs.YtokoadgahflafaaGreatDoorW.PrintWords Go.Proofs.YtokoadgahflafaaGreatDoorW.PrintMore Go.Proofs.YtokoadgahflafaaGreatDoorW.PrintLast Go.Proofs.YtokoadgahflafaaGreatDoor.Num Go.Proofs.YtokoadgahflafaaGreatDoor.Ref Go.Proofs.YtokoadgahflafaaGreatDoor.GBase Go.Proofs.YtokoadgahflafaaGreatDoor.GTh Go.Proofs.YtokoadgahflafaaGreatDoor.GA Go.Proofs.YtokoadgahflafaaGreatDoor.GB Go.Proofs.YtokoadgahflafaaGreatDoor.GC
theorem limb_step {x y z c : Nat} (hx : x < 18446744073709551616) (hy : y < 18446744073709551616) (hz : z < 18446744073709551616) (hc : c < 18446744073709551616) :
  let lo := x * y % 18446744073709551616; let hi := x * y / 18446744073709551616
  let lo1 := (lo + c) % 18446744073709551616; let c1 := (lo + c) / 18446744073709551616
  let d := (z + lo1) % 18446744073709551616; let c2 := (z + lo1) / 18446744073709551616
  hi + c1 < 18446744073709551616 ∧ hi + c1 + c2 < 18446744073709551616 ∧ d + (hi + c1 + c2) * 18446744073709551616 = z + c + x * y ∧ c1 ≤ 1 ∧ c2 ≤ 1 := by
 have h := Nat.mul_le_mul (show x ≤ 18446744073709551615 by omega) (show y ≤ 18446744073709551615 by omega)
 generalize x * y = p at *
 refine ⟨?_, ?_, ?_, ?_, ?_⟩ <;> omega
theorem row_step {T S a i j c d c' bj : Nat} (h1 : T + c * pw (i + j) = S + a % pw i * bj * pw j) (h2 : T / pw (i + j) = S / pw (i + j))
  (hd : d + c' * 18446744073709551616 = dw T (i + j) + c + dw a i * bj) (hdl : d < 18446744073709551616) :
  ∃ T', T + d * pw (i + j) = T' + dw T (i + j) * pw (i + j) ∧ T' + c' * pw (i + 1 + j) = S + a % pw (i + 1) * bj * pw j ∧ T' / pw (i + 1 + j) = S / pw (i + 1 + j) := by
 have hp := pw_pos (i + j)
 have e0 : pw (i + 1 + j) = pw (i + j) * 18446744073709551616 := by rw [show i + 1 + j = i + j + 1 by omega, pw_succ]
 have hm := Nat.div_add_mod T (pw (i + j))
 have hq := Nat.div_add_mod (T / pw (i + j)) 18446744073709551616
 have hz : dw T (i + j) = T / pw (i + j) % 18446744073709551616 := rfl
 have hr := Nat.mod_lt T hp
 have hab : pw (i + j) = pw i * pw j := by rw [pw_add]
 obtain ⟨P, hP⟩ : ∃ P, P = pw (i + j) := ⟨_, rfl⟩
 obtain ⟨H, hH⟩ : ∃ H, H = T / pw (i + j) / 18446744073709551616 := ⟨_, rfl⟩
 obtain ⟨z, hz'⟩ : ∃ z, z = dw T (i + j) := ⟨_, rfl⟩
 obtain ⟨R, hR⟩ : ∃ R, R = T % pw (i + j) := ⟨_, rfl⟩
 rw [← hH, ← hz, ← hz'] at hq
 rw [← hz'] at hd ⊢
 rw [← hR] at hm hr
 rw [← hq] at hm
 rw [← hP] at hm hr h1 e0 ⊢
 have eT : T = H * (P * 18446744073709551616) + z * P + R := by
  rw [← hm, Nat.mul_add]
  have a1 : P * (18446744073709551616 * H) = H * (P * 18446744073709551616) := by ac_rfl
  have a2 : P * z = z * P := Nat.mul_comm _ _
  omega
 refine ⟨H * (P * 18446744073709551616) + d * P + R, by omega, ?_, ?_⟩
 ·have k : (d + c' * 18446744073709551616) * P = (z + c + dw a i * bj) * P := by rw [hd]
  rw [Nat.add_mul, Nat.add_mul, Nat.add_mul] at k
  rw [e0, mod_succ, Nat.add_mul, Nat.add_mul]
  have a1 : c' * (P * 18446744073709551616) = c' * 18446744073709551616 * P := by ac_rfl
  have a2 : pw i * dw a i * bj * pw j = dw a i * bj * P := by rw [hP, hab]; ac_rfl
  rw [a1, a2]
  omega
 ·rw [e0, ← Nat.div_div_eq_div_mul S, hP, ← h2, ← hH, ← hP]
  have l : d * P + R < P * 18446744073709551616 := by
   have := Nat.mul_le_mul_right P (show d + 1 ≤ 18446744073709551616 by omega)
   rw [Nat.add_mul, Nat.one_mul] at this
   rw [Nat.mul_comm P]
   omega
  rw [Nat.add_assoc, Nat.mul_comm H, Nat.mul_add_div (by omega), Nat.div_eq_of_lt l, Nat.add_zero]
namespace M
theorem maskN (a : Nat) (ha : a < 18446744073709551616) : bits .and .u64 (a : Int) 4294967295 = ((a % 4294967296 : Nat) : Int) := by
 have h := bits_and_u64_nat a 4294967295 ha (by omega)
 have e : a &&& 4294967295 = a % 4294967296 := Nat.and_two_pow_sub_one_eq_mod a 32
 rw [e] at h
 exact h
theorem divN (a : Nat) : (a : Int) / 4294967296 = ((a / 4294967296 : Nat) : Int) := by omega
theorem mulN (a b : Nat) : (a : Int) * (b : Int) = ((a * b : Nat) : Int) := (Int.natCast_mul a b).symm
theorem addN (a b : Nat) : (a : Int) + (b : Int) = ((a + b : Nat) : Int) := (Int.natCast_add a b).symm
theorem wrapN (a : Nat) (ha : a < 18446744073709551616) : IntKind.u64.wrap (a : Int) = (a : Int) := by rw [IntKind.wrap_u64]; omega
theorem wrapM (a : Nat) : IntKind.u64.wrap (a : Int) = ((a % 18446744073709551616 : Nat) : Int) := by rw [IntKind.wrap_u64]; omega
end M
set_option maxHeartbeats 1000000 in
theorem mul64_any (x y : Nat) (hx : x < 18446744073709551616) (hy : y < 18446744073709551616) (w : World) :
  Calls Tryz.prog 189 #[.int .u64 (x : Int), .int .u64 (y : Int)] w fun e w' => e = .returned (.tuple #[.int .u64 ((x * y / 18446744073709551616 : Nat) : Int), .int .u64 ((x * y % 18446744073709551616 : Nat) : Int)]) ∧ w' = w := by
 obtain ⟨bd, bt, bw, hhi⟩ := Lib.mul64_hi x y hx hy
 have ba := Lib.half_mul_le (a := x / 4294967296) (b := y / 4294967296) (by omega) (by omega)
 have bb := Lib.half_mul_le (a := x / 4294967296) (b := y % 4294967296) (by omega) (by omega)
 have bc := Lib.half_mul_le (a := x % 4294967296) (b := y / 4294967296) (by omega) (by omega)
 have ba' : x / 4294967296 * (y / 4294967296) < 18446744073709551616 := by omega
 have bb' : x / 4294967296 * (y % 4294967296) < 18446744073709551616 := by omega
 have bc' : x % 4294967296 * (y / 4294967296) < 18446744073709551616 := by omega
 have bh1 : x / 4294967296 * (y / 4294967296) + (x / 4294967296 * (y % 4294967296) + x % 4294967296 * (y % 4294967296) / 4294967296) / 4294967296 < 18446744073709551616 := by omega
 have bh : x / 4294967296 * (y / 4294967296) + (x / 4294967296 * (y % 4294967296) + x % 4294967296 * (y % 4294967296) / 4294967296) / 4294967296 + ((x / 4294967296 * (y % 4294967296) + x % 4294967296 * (y % 4294967296) / 4294967296) % 4294967296 + x % 4294967296 * (y / 4294967296)) / 4294967296 < 18446744073709551616 := by omega
 go_enter Tryz.func189, Tryz.ntmps189
 go_wp2
 simp only [M.maskN x hx, M.maskN y hy, M.divN, M.mulN, M.addN, M.wrapN _ bd, M.wrapN _ bb', M.wrapN _ bt, M.maskN _ bt, M.wrapN _ bc', M.wrapN _ bw, M.wrapN _ ba', M.wrapN _ bh1, M.wrapN _ bh, M.wrapM (x * y)]
 rw [hhi]
 go_ret2
 exact ⟨rfl, rfl⟩
theorem add64c0 (x y lo hi : Nat) (h1 : (x + y) % 18446744073709551616 = lo) (h2 : (x + y) / 18446744073709551616 = hi) (w : World) : (callFunc 183 #[.int .u64 (x : Int), .int .u64 (y : Int), .int .u64 0]).run Tryz.prog w =
  .ok (.value (.tuple #[.int .u64 (lo : Int), .int .u64 (hi : Int)])) w := GG.add64v x y 0 lo hi (by decide) h1 h2 w
end Go.Proofs.YtokoadgahflafaaGreatDoor.GN
end
section
set_option linter.unusedVariables false
namespace Go.Proofs.YtokoadgahflafaaGreatDoor.GO
open Go.RowKit Go.Proofs.YtokoadgahflafaaGreatDoorW.PrintWords Go.Proofs.YtokoadgahflafaaGreatDoorW.PrintMore Go.Proofs.YtokoadgahflafaaGreatDoorW.PrintLast Go.Proofs.YtokoadgahflafaaGreatDoor.Num Go.Proofs.YtokoadgahflafaaGreatDoor.Ref Go.Proofs.YtokoadgahflafaaGreatDoor.GBase Go.Proofs.YtokoadgahflafaaGreatDoor.GTh Go.Proofs.YtokoadgahflafaaGreatDoor.GA Go.Proofs.YtokoadgahflafaaGreatDoor.GB Go.Proofs.YtokoadgahflafaaGreatDoor.GC Go.Proofs.YtokoadgahflafaaGreatDoor.GN
theorem wu_add {x y r : Nat} (h : x + y = r) (hr : r < 18446744073709551616) : IntKind.u64.wrap ((x : Int) + (y : Int)) = (r : Int) := by rw [IntKind.wrap_u64]; omega
theorem step_facts {T S a b i j c : Nat} (hc : c < 18446744073709551616) (e3 : T + c * pw (i + j) = S + a % pw i * dw b j * pw j) (e4 : T / pw (i + j) = S / pw (i + j)) :
  ∃ lo hi lo1 c1 d c2 h1 h2 T' : Nat, dw a i * dw b j % 18446744073709551616 = lo ∧ dw a i * dw b j / 18446744073709551616 = hi ∧ (lo + c) % 18446744073709551616 = lo1 ∧ (lo + c) / 18446744073709551616 = c1
   ∧ (dw T (i + j) + lo1) % 18446744073709551616 = d ∧ (dw T (i + j) + lo1) / 18446744073709551616 = c2 ∧ IntKind.u64.wrap ((hi : Int) + (c1 : Int)) = (h1 : Int) ∧ IntKind.u64.wrap ((h1 : Int) + (c2 : Int)) = (h2 : Int)
   ∧ h2 < 18446744073709551616 ∧ d < 18446744073709551616 ∧ T + d * pw (i + j) = T' + dw T (i + j) * pw (i + j) ∧ T' + h2 * pw (i + 1 + j) = S + a % pw (i + 1) * dw b j * pw j ∧ T' / pw (i + 1 + j) = S / pw (i + 1 + j) := by
 obtain ⟨s1, s2, s3, s4, s5⟩ := limb_step (dw_lt a i) (dw_lt b j) (dw_lt T (i + j)) hc
 obtain ⟨T', t1, t2, t3⟩ := row_step e3 e4 s3 (Nat.mod_lt _ (by decide))
 exact ⟨_, _, _, _, _, _, _, _, T', rfl, rfl, rfl, rfl, rfl, rfl, wu_add rfl s1, wu_add rfl s2, s2, Nat.mod_lt _ (by decide), t1, t2, t3⟩
theorem ij_wrap {i j : Nat} (h : i + j < 1099511627776) : IntKind.i64.wrap ((i : Int) + (j : Int)) = ((i + j : Nat) : Int) := by rw [IntWalk.i64_in _ (by omega)]; omega
theorem ij_w64 {i j : Nat} (h : i + j < 1099511627776) : wrap64 ((i : Int) + (j : Int)) = ((i + j : Nat) : Int) := by rw [w64 (by omega) (by omega)]; omega
theorem succ_val {i : Nat} (h : i < 1099511627776) : Value.int .i64 (wrap64 ((i : Int) + 1)) = Value.int .i64 ((i + 1 : Nat) : Int) := by rw [w64 (by omega) (by omega)]; exact congrArg _ (by omega)
theorem row_end {T S a b n j c : Nat} (e3 : T + c * pw (n + j) = S + a % pw n * dw b j * pw j) (e4 : T / pw (n + j) = S / pw (n + j)) (ha : a < pw n) (eS : S = a * (b % pw j)) :
  dw T (n + j) = 0 ∧ T + c * pw (n + j) = a * (b % pw (j + 1)) := by
 have hS : S < pw (n + j) := by
  rw [eS, pw_add]
  have h1 := Nat.mod_lt b (pw_pos j)
  exact Nat.lt_of_lt_of_le (Nat.mul_lt_mul_of_lt_of_le ha (Nat.le_of_lt h1) (pw_pos j)) (Nat.le_refl _)
 refine ⟨?_, ?_⟩
 ·unfold dw
  rw [e4, Nat.div_eq_of_lt hS, Nat.zero_mod]
 ·rw [e3, Nat.mod_eq_of_lt ha, eS, mod_succ, Nat.mul_add]
  congr 1
  ac_rfl
set_option maxRecDepth 100000 in
set_option maxHeartbeats 400000 in
theorem rows_any (W w : World) (A B : Option Addr) (ca cb a b G N cz : Nat) (hO : Own W w G N 0) (hA : Nt W A ca a) (hB : Nt W B cb b) (hN : N = nl a + nl b) (la : nl a ≤ 8192) (lb : nl b ≤ 8192) :
  Calls Tryz.prog 195 #[.slice (some ⟨G, 0, none⟩) N cz, .slice A (nl a) ca, .slice B (nl b) cb] w fun e w' => e = .returned (.tuple #[]) ∧ Own W w' G N (a * b) := by
 have RA := Lib.hid hA
 have RB := Lib.hid hB
 have O0 := Lib.hid hO
 generalize hn : nl a = n at *
 generalize hm : nl b = m at *
 have HL := Lib.hid (And.intro hn (And.intro hm (And.intro la (And.intro lb hN))))
 clear hA hB hO la lb hn hm hN
 go_enter Tryz.func195, Tryz.ntmps195
 go_wp2_with fail
 go_loopg [14] m (fun g i wr => ∃ j S : Nat, j ≤ m ∧ g = m - j ∧ i = .int .i64 j ∧ S = a * (b % pw j) ∧ Own W wr G N S)
 case atStart => exact ⟨0, 0, Nat.zero_le _, rfl, rfl, by rw [pw_zero, Nat.mod_one, Nat.mul_zero], O0.out⟩
 case round =>
  obtain ⟨j, S, hj, rfl, rfl, e1, ho⟩ := hrel
  have O := Lib.hid ho
  clear ho O0
  by_cases c0 : j < m
  ·have l1 : decide ((j : Int) < (m : Int)) = true := decide_eq_true (by omega)
   have l2 : (j : Int) < (m : Int) := by omega
   have HJ := Lib.hid (And.intro c0 e1)
   clear e1 hj
   go_wp2_with fail
   go_loopg [7, 19] n (fun g cv iv wr => ∃ i T c : Nat, i ≤ n ∧ g = n - i ∧ iv = .int .i64 i ∧ cv = .int .u64 (c : Int) ∧ c < 18446744073709551616 ∧ T + c * pw (i + j) = S + a % pw i * dw b j * pw j ∧ T / pw (i + j) = S / pw (i + j) ∧ Own W wr G N T)
   case atStart => exact ⟨0, S, 0, Nat.zero_le _, rfl, rfl, rfl, by decide, by rw [Nat.zero_mul, pw_zero, Nat.mod_one, Nat.zero_mul, Nat.zero_mul], rfl, O.out⟩
   case round =>
    obtain ⟨i, T, c, hi_, rfl, rfl, rfl, e2, e3, e4, ho⟩ := hrel
    have O2 := Lib.hid ho
    have EE := Lib.hid (And.intro e2 (And.intro e3 e4))
    clear ho e2 e3 e4
    have hN := HL.out.2.2.2.2
    have hn8 := HL.out.2.2.1
    have hm8 := HL.out.2.2.2.1
    have hjm := HJ.out.1
    by_cases c1 : i < n
    ·have k1 : decide ((i : Int) < (n : Int)) = true := decide_eq_true (by omega)
     have k2 : (i : Int) < (n : Int) := by omega
     have k0 : i + j < 1099511627776 := by omega
     have k3 := ij_wrap k0
     have k4 := ij_w64 k0
     have k5 : i + j < N := by omega
     have k6 : ((i + j : Nat) : Int) < (N : Int) := by omega
     have rA := RA.out.next O2.out.below
     have rB := RB.out.next O2.out.below
     have iA : nl a = n := HL.out.1
     have iB : nl b = m := HL.out.2.1
     rcases rA.row with ⟨_, e, _⟩ | ⟨GA', oA, rfl, qA⟩
     ·omega
     rcases rB.row with ⟨_, e, _⟩ | ⟨GB', oB, rfl, qB⟩
     ·omega
     have za := qA.cell i (by omega)
     have zb := qB.cell j (by omega)
     obtain ⟨lo, hi, lo1, c1', d, c2', h1, h2, T', f1, f2, f3, f4, f5, f6, u1, u2, f7, f8, f9, f10, f11⟩ := step_facts EE.out.1 EE.out.2.1 EE.out.2.2
     have CM := Lib.hid (fun (w : World) => mul64_any (dw a i) (dw b j) (dw_lt a i) (dw_lt b j) w)
     rw [f1, f2] at CM
     have A1 := Lib.hid (add64c0 lo c lo1 c1' f3 f4)
     have A2 := Lib.hid (add64c0 (dw T (i + j)) lo1 d c2' f5 f6)
     have ST := Lib.hid (And.intro f7 (And.intro f8 (And.intro f9 (And.intro f10 f11))))
     have HI := Lib.hid (And.intro hi_ c1)
     generalize hx1 : dw a i = x1 at *
     generalize hx2 : dw b j = x2 at *
     generalize hz1 : dw T (i + j) = z1 at *
     generalize hij : i + j = ij at *
     clear rA rB iA iB qA qB f1 f2 f3 f4 f5 f6 f7 f8 f9 f10 f11 hN hn8 hm8 hjm hi_ c1 k0 hx1 hx2
     go_wp2_with fail
     go_quiet ((go_at_call 189; refine Calls.quiet_of_same (CM.out _)))
     have O3 := Lib.hid (O2.out.next (dn_below _ nq))
     generalize wr.drewN nq = w3 at *
     have zs := O3.out.cell (j := ij) k5
     have fs := O3.out.frozen (j := ij)
     rw [hz1] at zs
     have O4 := Lib.hid (O3.out.put (i := ij) (d := d) (y := T') ST.out.2.1 (by rw [hz1]; exact ST.out.2.2.1))
     go_wp2_with (first | rw [A1.out] | rw [A2.out]; go_simp)
     go_roundg (n - (i + 1))
     case measure => have := HI.out.2; omega
     case rel => exact ⟨i + 1, T', h2, HI.out.2, rfl, succ_val (by have := HI.out.2; have := HL.out.2.2.1; omega), rfl, ST.out.1, ST.out.2.2.2.1, ST.out.2.2.2.2, O4.out⟩
    ·obtain rfl : i = n := by omega
     have k1 : decide ((i : Int) < (i : Int)) = false := decide_eq_false (by omega)
     have k0 : j + i < 1099511627776 := by omega
     have k3 := ij_wrap k0
     have k4 := ij_w64 k0
     have k5 : j + i < N := by omega
     have k6 : ((j + i : Nat) : Int) < (N : Int) := by omega
     have ha : a < pw i := nl_le_iff.1 (Nat.le_of_eq HL.out.1)
     obtain ⟨r1, r2⟩ := row_end EE.out.2.1 EE.out.2.2 ha HJ.out.2
     rw [Nat.add_comm i j] at r1 r2
     have zs := O2.out.cell (j := j + i) k5
     have fs := O2.out.frozen (j := j + i)
     have O3 := Lib.hid (O2.out.put (i := j + i) (d := c) (y := a * (b % pw (j + 1))) EE.out.1 (by rw [r1, Nat.zero_mul, Nat.add_zero]; exact r2))
     generalize dw T (j + i) = z1 at *
     generalize hij : j + i = ij at *
     clear hN hn8 hm8 hjm hi_ c1 k0 ha r1 r2
     go_wp2_with fail
     go_roundg (m - (j + 1))
     case measure => have := HJ.out.1; omega
     case rel => exact ⟨j + 1, _, HJ.out.1, rfl, succ_val (by have := HJ.out.1; have := HL.out.2.2.2.1; omega), rfl, O3.out⟩
  ·obtain rfl : j = m := by omega
   have l1 : decide ((j : Int) < (j : Int)) = false := decide_eq_false (by omega)
   have hb : b % pw j = b := Nat.mod_eq_of_lt (nl_le_iff.1 (Nat.le_of_eq HL.out.2.1))
   rw [e1, hb] at O
   clear e1 hb hj c0
   go_wp2_with fail
   go_end0
   exact ⟨rfl, O.out⟩
end Go.Proofs.YtokoadgahflafaaGreatDoor.GO
end
