/- natmul's rows: the school product, limb by limb. Conditions: rows of at most 16384 limbs. -/
import Derived.Test.YtokoadgahflafaaGreatDoorKSoftFixedGM
import Derived.Lib.Mul64
import Derived.Laws.Bits64b
import Derived.WalkKit
set_option linter.unusedVariables false
namespace Go.Proofs.YtokoadgahflafaaGreatDoor.GN
open Go.RowKit Go.Proofs.YtokoadgahflafaaGreatDoorW.PrintWords Go.Proofs.YtokoadgahflafaaGreatDoorW.PrintMore Go.Proofs.YtokoadgahflafaaGreatDoorW.PrintLast Go.Proofs.YtokoadgahflafaaGreatDoor.Num Go.Proofs.YtokoadgahflafaaGreatDoor.Ref Go.Proofs.YtokoadgahflafaaGreatDoor.GBase Go.Proofs.YtokoadgahflafaaGreatDoor.GTh Go.Proofs.YtokoadgahflafaaGreatDoor.GA Go.Proofs.YtokoadgahflafaaGreatDoor.GB Go.Proofs.YtokoadgahflafaaGreatDoor.GC
theorem limb_step {x y z c : Nat} (hx : x < 18446744073709551616) (hy : y < 18446744073709551616) (hz : z < 18446744073709551616) (hc : c < 18446744073709551616) :
  let lo := x * y % 18446744073709551616; let hi := x * y / 18446744073709551616
  let lo1 := (lo + c) % 18446744073709551616; let c1 := (lo + c) / 18446744073709551616
  let d := (z + lo1) % 18446744073709551616; let c2 := (z + lo1) / 18446744073709551616
  hi + c1 < 18446744073709551616 ∧ hi + c1 + c2 < 18446744073709551616 ∧ d + (hi + c1 + c2) * 18446744073709551616 = z + c + x * y ∧ c1 ≤ 1 ∧ c2 ≤ 1 := by
 have h := Nat.mul_le_mul (show x ≤ 18446744073709551615 by omega) (show y ≤ 18446744073709551615 by omega)
 generalize x * y = p at *
 refine ⟨?_, ?_, ?_, ?_, ?_⟩ <;> omega
theorem row_step {T S a i j c d c' bj : Nat} (h1 : T + c * pw (i + j) = S + a % pw i * bj * pw j) (h2 : T / pw (i + j) = S / pw (i + j))
  (hd : d + c' * 18446744073709551616 = dw T (i + j) + c + dw a i * bj) (hdl : d < 18446744073709551616) :
  ∃ T', T + d * pw (i + j) = T' + dw T (i + j) * pw (i + j) ∧ T' + c' * pw (i + 1 + j) = S + a % pw (i + 1) * bj * pw j ∧ T' / pw (i + 1 + j) = S / pw (i + 1 + j) := by
 have hp := pw_pos (i + j)
 have e0 : pw (i + 1 + j) = pw (i + j) * 18446744073709551616 := by rw [show i + 1 + j = i + j + 1 by omega, pw_succ]
 have hm := Nat.div_add_mod T (pw (i + j))
 have hq := Nat.div_add_mod (T / pw (i + j)) 18446744073709551616
 have hz : dw T (i + j) = T / pw (i + j) % 18446744073709551616 := rfl
 have hr := Nat.mod_lt T hp
 have hab : pw (i + j) = pw i * pw j := by rw [pw_add]
 obtain ⟨P, hP⟩ : ∃ P, P = pw (i + j) := ⟨_, rfl⟩
 obtain ⟨H, hH⟩ : ∃ H, H = T / pw (i + j) / 18446744073709551616 := ⟨_, rfl⟩
 obtain ⟨z, hz'⟩ : ∃ z, z = dw T (i + j) := ⟨_, rfl⟩
 obtain ⟨R, hR⟩ : ∃ R, R = T % pw (i + j) := ⟨_, rfl⟩
 rw [← hH, ← hz, ← hz'] at hq
 rw [← hz'] at hd ⊢
 rw [← hR] at hm hr
 rw [← hq] at hm
 rw [← hP] at hm hr h1 e0 ⊢
 have eT : T = H * (P * 18446744073709551616) + z * P + R := by
  rw [← hm, Nat.mul_add]
  have a1 : P * (18446744073709551616 * H) = H * (P * 18446744073709551616) := by ac_rfl
  have a2 : P * z = z * P := Nat.mul_comm _ _
  omega
 refine ⟨H * (P * 18446744073709551616) + d * P + R, by omega, ?_, ?_⟩
 ·have k : (d + c' * 18446744073709551616) * P = (z + c + dw a i * bj) * P := by rw [hd]
  rw [Nat.add_mul, Nat.add_mul, Nat.add_mul] at k
  rw [e0, mod_succ, Nat.add_mul, Nat.add_mul]
  have a1 : c' * (P * 18446744073709551616) = c' * 18446744073709551616 * P := by ac_rfl
  have a2 : pw i * dw a i * bj * pw j = dw a i * bj * P := by rw [hP, hab]; ac_rfl
  rw [a1, a2]
  omega
 ·rw [e0, ← Nat.div_div_eq_div_mul S, hP, ← h2, ← hH, ← hP]
  have l : d * P + R < P * 18446744073709551616 := by
   have := Nat.mul_le_mul_right P (show d + 1 ≤ 18446744073709551616 by omega)
   rw [Nat.add_mul, Nat.one_mul] at this
   rw [Nat.mul_comm P]
   omega
  rw [Nat.add_assoc, Nat.mul_comm H, Nat.mul_add_div (by omega), Nat.div_eq_of_lt l, Nat.add_zero]
namespace M
theorem maskN (a : Nat) (ha : a < 18446744073709551616) : bits .and .u64 (a : Int) 4294967295 = ((a % 4294967296 : Nat) : Int) := by
 have h := bits_and_u64_nat a 4294967295 ha (by omega)
 have e : a &&& 4294967295 = a % 4294967296 := Nat.and_two_pow_sub_one_eq_mod a 32
 rw [e] at h
 exact h
theorem divN (a : Nat) : (a : Int) / 4294967296 = ((a / 4294967296 : Nat) : Int) := by omega
theorem mulN (a b : Nat) : (a : Int) * (b : Int) = ((a * b : Nat) : Int) := (Int.natCast_mul a b).symm
theorem addN (a b : Nat) : (a : Int) + (b : Int) = ((a + b : Nat) : Int) := (Int.natCast_add a b).symm
theorem wrapN (a : Nat) (ha : a < 18446744073709551616) : IntKind.u64.wrap (a : Int) = (a : Int) := by rw [IntKind.wrap_u64]; omega
theorem wrapM (a : Nat) : IntKind.u64.wrap (a : Int) = ((a % 18446744073709551616 : Nat) : Int) := by rw [IntKind.wrap_u64]; omega
end M
set_option maxHeartbeats 1000000 in
theorem mul64_any (x y : Nat) (hx : x < 18446744073709551616) (hy : y < 18446744073709551616) (w : World) :
  Calls Tryz.prog 189 #[.int .u64 (x : Int), .int .u64 (y : Int)] w fun e w' => e = .returned (.tuple #[.int .u64 ((x * y / 18446744073709551616 : Nat) : Int), .int .u64 ((x * y % 18446744073709551616 : Nat) : Int)]) ∧ w' = w := by
 obtain ⟨bd, bt, bw, hhi⟩ := Lib.mul64_hi x y hx hy
 have ba := Lib.half_mul_le (a := x / 4294967296) (b := y / 4294967296) (by omega) (by omega)
 have bb := Lib.half_mul_le (a := x / 4294967296) (b := y % 4294967296) (by omega) (by omega)
 have bc := Lib.half_mul_le (a := x % 4294967296) (b := y / 4294967296) (by omega) (by omega)
 have ba' : x / 4294967296 * (y / 4294967296) < 18446744073709551616 := by omega
 have bb' : x / 4294967296 * (y % 4294967296) < 18446744073709551616 := by omega
 have bc' : x % 4294967296 * (y / 4294967296) < 18446744073709551616 := by omega
 have bh1 : x / 4294967296 * (y / 4294967296) + (x / 4294967296 * (y % 4294967296) + x % 4294967296 * (y % 4294967296) / 4294967296) / 4294967296 < 18446744073709551616 := by omega
 have bh : x / 4294967296 * (y / 4294967296) + (x / 4294967296 * (y % 4294967296) + x % 4294967296 * (y % 4294967296) / 4294967296) / 4294967296 + ((x / 4294967296 * (y % 4294967296) + x % 4294967296 * (y % 4294967296) / 4294967296) % 4294967296 + x % 4294967296 * (y / 4294967296)) / 4294967296 < 18446744073709551616 := by omega
 go_enter Tryz.func189, Tryz.ntmps189
 go_wp2
 simp only [M.maskN x hx, M.maskN y hy, M.divN, M.mulN, M.addN, M.wrapN _ bd, M.wrapN _ bb', M.wrapN _ bt, M.maskN _ bt, M.wrapN _ bc', M.wrapN _ bw, M.wrapN _ ba', M.wrapN _ bh1, M.wrapN _ bh, M.wrapM (x * y)]
 rw [hhi]
 go_ret2
 exact ⟨rfl, rfl⟩
theorem add64c0 (x y lo hi : Nat) (h1 : (x + y) % 18446744073709551616 = lo) (h2 : (x + y) / 18446744073709551616 = hi) (w : World) : (callFunc 183 #[.int .u64 (x : Int), .int .u64 (y : Int), .int .u64 0]).run Tryz.prog w =
  .ok (.value (.tuple #[.int .u64 (lo : Int), .int .u64 (hi : Int)])) w := GG.add64v x y 0 lo hi (by decide) h1 h2 w
end Go.Proofs.YtokoadgahflafaaGreatDoor.GN
