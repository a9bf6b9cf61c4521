/- The given functions' contracts (Given) as contracts of Px. Condition: as there. math/bits.TrailingZeros64 and Len64 as plain functions, their contracts by Px. Condition: math/bits' table is laid. math's words of floats answer at once (for Px). No condition. natmul's rows: the school product, limb by limb. Conditions: rows of at most 16384 limbs. -/
import Derived.Test.YtapikmfckpgjoaaGreatDoorKDdFloatsPxBr
import Derived.Test.YtapikmfckpgjoaaGreatDoorKDdFloatsGiven
import Derived.Test.YtapikmfckpgjoaaGreatDoorKDdFloatsGivenD
import Derived.Laws.Externs
import Derived.WalkKit
import Derived.OwnWalk
import Derived.Lib.Mul64
import Derived.Laws.Bits64b
section
set_option linter.unusedVariables false
namespace Go.Proofs.YtapikmfckpgjoaaGreatDoor.Given
open Go Go.RowKit Go.Proofs.YtapikmfckpgjoaaGreatDoorW.PrintWords Go.Proofs.YtapikmfckpgjoaaGreatDoorW.PrintMore Go.Proofs.YtapikmfckpgjoaaGreatDoor.Px
theorem nat_Bits.c {l0 : List Int} {r : Int} (h : nat_Bits.f l0 = some r) : Con Tryz.prog Gw 116 [.s (.sl .u64 l0)] (· = .s (.i .i64 r)) := by
 refine brg Tryz.func116 (by kernel_rfl) fun w S vs gw hS vs_ => ?_
 obtain ⟨A0, c0, u0, rfl, hc0, hr0, v0⟩ := a_sl vs_
 obtain rfl := a_nil v0
 exact (nat_Bits.calls A0 c0 l0 r w hr0 hc0 h).mono fun e w' ⟨he, hb⟩ => ⟨_, _, he, rfl, rfl, hb⟩
theorem nat_Trail.c {l0 : List Int} {r : Int} (h : nat_Trail.f l0 = some r) : Con Tryz.prog Gw 85 [.s (.sl .u64 l0)] (· = .s (.i .i64 r)) := by
 refine brg Tryz.func85 (by kernel_rfl) fun w S vs gw hS vs_ => ?_
 obtain ⟨A0, c0, u0, rfl, hc0, hr0, v0⟩ := a_sl vs_
 obtain rfl := a_nil v0
 exact (nat_Trail.calls A0 c0 l0 r w hr0 hc0 gw h).mono fun e w' ⟨he, hb⟩ => ⟨_, _, he, rfl, rfl, hb⟩
theorem nat_Cmp.c {l0 : List Int} {l1 : List Int} {r : Int} (h : nat_Cmp.f l0 l1 = some r) : Con Tryz.prog Gw 91 [.s (.sl .u64 l0), .s (.sl .u64 l1)] (· = .s (.i .i64 r)) := by
 refine brg Tryz.func91 (by kernel_rfl) fun w S vs gw hS vs_ => ?_
 obtain ⟨A0, c0, u0, rfl, hc0, hr0, v0⟩ := a_sl vs_
 obtain ⟨A1, c1, u1, rfl, hc1, hr1, v1⟩ := a_sl v0
 obtain rfl := a_nil v1
 exact (nat_Cmp.calls A0 c0 l0 A1 c1 l1 r w hr0 hc0 hr1 hc1 h).mono fun e w' ⟨he, hb⟩ => ⟨_, _, he, rfl, rfl, hb⟩
theorem nat_Shl.c {l0 : List Int} {a1 : Int} {r : List Int × Int} (h : nat_Shl.f l0 a1 = some r) : Con Tryz.prog Gw 89 [.s (.sl .u64 l0), .s (.i .i64 a1)] (· = .tu [.s (.sl .u64 r.1), .s (.i .i64 r.2)]) := by
 refine brg Tryz.func89 (by kernel_rfl) fun w S vs gw hS vs_ => ?_
 obtain ⟨A0, c0, u0, rfl, hc0, hr0, v0⟩ := a_sl vs_
 obtain ⟨u1, rfl, v1⟩ := a_i v0
 obtain rfl := a_nil v1
 exact (nat_Shl.calls A0 c0 l0 a1 r.1 r.2 w hr0 hc0 h).mono fun e w' ⟨v0_, he, hR_v0_, hb⟩ => ⟨_, _, he, rfl, ⟨[v0_, .int .i64 r.2], rfl, (.cons (ofR hR_v0_ hS) (.cons rfl .nil))⟩, hb⟩
theorem nat_Shr.c {l0 : List Int} {a1 : Int} {r : List Int × Int} (h : nat_Shr.f l0 a1 = some r) : Con Tryz.prog Gw 86 [.s (.sl .u64 l0), .s (.i .i64 a1)] (· = .tu [.s (.sl .u64 r.1), .s (.i .i64 r.2)]) := by
 refine brg Tryz.func86 (by kernel_rfl) fun w S vs gw hS vs_ => ?_
 obtain ⟨A0, c0, u0, rfl, hc0, hr0, v0⟩ := a_sl vs_
 obtain ⟨u1, rfl, v1⟩ := a_i v0
 obtain rfl := a_nil v1
 exact (nat_Shr.calls A0 c0 l0 a1 r.1 r.2 w hr0 hc0 h).mono fun e w' ⟨v0_, he, hR_v0_, hb⟩ => ⟨_, _, he, rfl, ⟨[v0_, .int .i64 r.2], rfl, (.cons (ofR hR_v0_ hS) (.cons rfl .nil))⟩, hb⟩
theorem nat_Add.c {l0 : List Int} {l1 : List Int} {r : List Int × Int} (h : nat_Add.f l0 l1 = some r) : Con Tryz.prog Gw 90 [.s (.sl .u64 l0), .s (.sl .u64 l1)] (· = .tu [.s (.sl .u64 r.1), .s (.i .i64 r.2)]) := by
 refine brg Tryz.func90 (by kernel_rfl) fun w S vs gw hS vs_ => ?_
 obtain ⟨A0, c0, u0, rfl, hc0, hr0, v0⟩ := a_sl vs_
 obtain ⟨A1, c1, u1, rfl, hc1, hr1, v1⟩ := a_sl v0
 obtain rfl := a_nil v1
 exact (nat_Add.calls A0 c0 l0 A1 c1 l1 r.1 r.2 w hr0 hc0 hr1 hc1 h).mono fun e w' ⟨v0_, he, hR_v0_, hb⟩ => ⟨_, _, he, rfl, ⟨[v0_, .int .i64 r.2], rfl, (.cons (ofR hR_v0_ hS) (.cons rfl .nil))⟩, hb⟩
theorem nat_Sub.c {l0 : List Int} {l1 : List Int} {r : List Int × Int} (h : nat_Sub.f l0 l1 = some r) : Con Tryz.prog Gw 92 [.s (.sl .u64 l0), .s (.sl .u64 l1)] (· = .tu [.s (.sl .u64 r.1), .s (.i .i64 r.2)]) := by
 refine brg Tryz.func92 (by kernel_rfl) fun w S vs gw hS vs_ => ?_
 obtain ⟨A0, c0, u0, rfl, hc0, hr0, v0⟩ := a_sl vs_
 obtain ⟨A1, c1, u1, rfl, hc1, hr1, v1⟩ := a_sl v0
 obtain rfl := a_nil v1
 exact (nat_Sub.calls A0 c0 l0 A1 c1 l1 r.1 r.2 w hr0 hc0 hr1 hc1 h).mono fun e w' ⟨v0_, he, hR_v0_, hb⟩ => ⟨_, _, he, rfl, ⟨[v0_, .int .i64 r.2], rfl, (.cons (ofR hR_v0_ hS) (.cons rfl .nil))⟩, hb⟩
theorem slices_Clone_uint64_uint64.c {l0 : List Int} {r : List Int} (h : slices_Clone_uint64_uint64.f l0 = some r) : Con Tryz.prog Gw 88 [.s (.sl .u64 l0)] (· = .s (.sl .u64 r)) := by
 refine brg Tryz.func88 (by kernel_rfl) fun w S vs gw hS vs_ => ?_
 obtain ⟨A0, c0, u0, rfl, hc0, hr0, v0⟩ := a_sl vs_
 obtain rfl := a_nil v0
 exact (slices_Clone_uint64_uint64.calls A0 c0 l0 r w hr0 hc0 h).mono fun e w' ⟨v0_, he, hR_v0_, hb⟩ => ⟨_, _, he, rfl, ofR hR_v0_ hS, hb⟩
end Go.Proofs.YtapikmfckpgjoaaGreatDoor.Given
end
section
set_option linter.unusedVariables false
namespace Go.Proofs.YtapikmfckpgjoaaGreatDoor.Given
open Go Go.RowKit Go.Proofs.YtapikmfckpgjoaaGreatDoorW.PrintWords Go.Proofs.YtapikmfckpgjoaaGreatDoorW.PrintMore Go.Proofs.YtapikmfckpgjoaaGreatDoor.Px Go.Proofs.YtapikmfckpgjoaaGreatDoor.GTab Go.Proofs.YtapikmfckpgjoaaGreatDoor.Ref
def bits_Len64.f (a0 : Int) : Option Int := if 0 ≤ a0 ∧ a0 < 18446744073709551616 then some ((bl a0.toNat : Nat) : Int) else none
theorem bits_Len64.c {a0 : Int} {r : Int} (h : bits_Len64.f a0 = some r) : Con Tryz.prog Gw 130 [.s (.i .u64 a0)] (· = .s (.i .i64 r)) := by
 unfold bits_Len64.f at h
 split at h
 ·rename_i hb
  have h := Option.some.inj h
  subst h
  refine brg Tryz.func130 (by kernel_rfl) fun w S vs gw hS vs_ => ?_
  obtain ⟨u0, rfl, v0⟩ := a_i vs_
  obtain rfl := a_nil v0
  obtain ⟨x, rfl⟩ : ∃ x : Nat, a0 = (x : Int) := ⟨a0.toNat, by omega⟩
  rw [Int.toNat_natCast]
  obtain ⟨k, hk⟩ := (GBase.len_ev x (by omega)).rounds
  refine (PLen.bits_Len64.calls k _ _ w hk).mono fun e' w' he => ?_
  exact ⟨_, _, he.1, rfl, rfl, he.2.below⟩
 ·cases h
end Go.Proofs.YtapikmfckpgjoaaGreatDoor.Given
end
section
set_option linter.unusedVariables false
namespace Go.Proofs.YtapikmfckpgjoaaGreatDoor.PLib
open Go Go.RowKit Go.Proofs.YtapikmfckpgjoaaGreatDoorW.PrintWords Go.Proofs.YtapikmfckpgjoaaGreatDoor.Px
theorem pf_from (n : Int) (w : World) : (callFunc 40 #[.int .u64 n]).run Tryz.prog w = .ok (.value (.float .f64 n.toNat)) w := by
 rw [run_callFunc_extern (P := Tryz.prog) (f := 40) (fn := Tryz.f40) (e := Extern.MathFloatBits.float64frombits) (by kernel_rfl) (by kernel_rfl) (by kernel_rfl) (by kernel_rfl) (by kernel_rfl)]
 rfl
theorem pf_bits (b : Nat) (w : World) : (callFunc 36 #[.float .f64 b]).run Tryz.prog w = .ok (.value (.int .u64 b)) w := by
 rw [run_callFunc_extern (P := Tryz.prog) (f := 36) (fn := Tryz.f36) (e := Extern.MathFloatBits.float64bits) (by kernel_rfl) (by kernel_rfl) (by kernel_rfl) (by kernel_rfl) (by kernel_rfl)]
 rfl
theorem fl_from (n : Int) : ExtC Tryz.prog 40 [.s (.i .u64 n)] (.s (.fl .f64 n.toNat)) := by
 intro w T vs hv
 obtain ⟨us, rfl, h2⟩ := a_i hv
 obtain rfl := a_nil h2
 exact ⟨_, pf_from n w, rfl⟩
theorem fl_bits (n : Nat) : ExtC Tryz.prog 36 [.s (.fl .f64 n)] (.s (.i .u64 (n : Int))) := by
 intro w T vs hv
 cases hv with
 | cons h1 h2 =>
  obtain rfl := h1
  obtain rfl := a_nil h2
  exact ⟨_, pf_bits n w, rfl⟩
end Go.Proofs.YtapikmfckpgjoaaGreatDoor.PLib
end
section
set_option linter.unusedVariables false
namespace Go.Proofs.YtapikmfckpgjoaaGreatDoor.GN
open Go.RowKit Go.Proofs.YtapikmfckpgjoaaGreatDoorW.PrintWords Go.Proofs.YtapikmfckpgjoaaGreatDoorW.PrintMore Go.Proofs.YtapikmfckpgjoaaGreatDoorW.PrintLast Go.Proofs.YtapikmfckpgjoaaGreatDoor.Num Go.Proofs.YtapikmfckpgjoaaGreatDoor.Ref Go.Proofs.YtapikmfckpgjoaaGreatDoor.GBase Go.Proofs.YtapikmfckpgjoaaGreatDoor.GTh Go.Proofs.YtapikmfckpgjoaaGreatDoor.GA Go.Proofs.YtapikmfckpgjoaaGreatDoor.GB Go.Proofs.YtapikmfckpgjoaaGreatDoor.GC
theorem limb_step {x y z c : Nat} (hx : x < 18446744073709551616) (hy : y < 18446744073709551616) (hz : z < 18446744073709551616) (hc : c < 18446744073709551616) :
  let lo := x * y % 18446744073709551616; let hi := x * y / 18446744073709551616
  let lo1 := (lo + c) % 18446744073709551616; let c1 := (lo + c) / 18446744073709551616
  let d := (z + lo1) % 18446744073709551616; let c2 := (z + lo1) / 18446744073709551616
  hi + c1 < 18446744073709551616 ∧ hi + c1 + c2 < 18446744073709551616 ∧ d + (hi + c1 + c2) * 18446744073709551616 = z + c + x * y ∧ c1 ≤ 1 ∧ c2 ≤ 1 := by
 have h := Nat.mul_le_mul (show x ≤ 18446744073709551615 by omega) (show y ≤ 18446744073709551615 by omega)
 generalize x * y = p at *
 refine ⟨?_, ?_, ?_, ?_, ?_⟩ <;> omega
theorem row_step {T S a i j c d c' bj : Nat} (h1 : T + c * pw (i + j) = S + a % pw i * bj * pw j) (h2 : T / pw (i + j) = S / pw (i + j))
  (hd : d + c' * 18446744073709551616 = dw T (i + j) + c + dw a i * bj) (hdl : d < 18446744073709551616) :
  ∃ T', T + d * pw (i + j) = T' + dw T (i + j) * pw (i + j) ∧ T' + c' * pw (i + 1 + j) = S + a % pw (i + 1) * bj * pw j ∧ T' / pw (i + 1 + j) = S / pw (i + 1 + j) := by
 have hp := pw_pos (i + j)
 have e0 : pw (i + 1 + j) = pw (i + j) * 18446744073709551616 := by rw [show i + 1 + j = i + j + 1 by omega, pw_succ]
 have hm := Nat.div_add_mod T (pw (i + j))
 have hq := Nat.div_add_mod (T / pw (i + j)) 18446744073709551616
 have hz : dw T (i + j) = T / pw (i + j) % 18446744073709551616 := rfl
 have hr := Nat.mod_lt T hp
 have hab : pw (i + j) = pw i * pw j := by rw [pw_add]
 obtain ⟨P, hP⟩ : ∃ P, P = pw (i + j) := ⟨_, rfl⟩
 obtain ⟨H, hH⟩ : ∃ H, H = T / pw (i + j) / 18446744073709551616 := ⟨_, rfl⟩
 obtain ⟨z, hz'⟩ : ∃ z, z = dw T (i + j) := ⟨_, rfl⟩
 obtain ⟨R, hR⟩ : ∃ R, R = T % pw (i + j) := ⟨_, rfl⟩
 rw [← hH, ← hz, ← hz'] at hq
 rw [← hz'] at hd ⊢
 rw [← hR] at hm hr
 rw [← hq] at hm
 rw [← hP] at hm hr h1 e0 ⊢
 have eT : T = H * (P * 18446744073709551616) + z * P + R := by
  rw [← hm, Nat.mul_add]
  have a1 : P * (18446744073709551616 * H) = H * (P * 18446744073709551616) := by ac_rfl
  have a2 : P * z = z * P := Nat.mul_comm _ _
  omega
 refine ⟨H * (P * 18446744073709551616) + d * P + R, by omega, ?_, ?_⟩
 ·have k : (d + c' * 18446744073709551616) * P = (z + c + dw a i * bj) * P := by rw [hd]
  rw [Nat.add_mul, Nat.add_mul, Nat.add_mul] at k
  rw [e0, mod_succ, Nat.add_mul, Nat.add_mul]
  have a1 : c' * (P * 18446744073709551616) = c' * 18446744073709551616 * P := by ac_rfl
  have a2 : pw i * dw a i * bj * pw j = dw a i * bj * P := by rw [hP, hab]; ac_rfl
  rw [a1, a2]
  omega
 ·rw [e0, ← Nat.div_div_eq_div_mul S, hP, ← h2, ← hH, ← hP]
  have l : d * P + R < P * 18446744073709551616 := by
   have := Nat.mul_le_mul_right P (show d + 1 ≤ 18446744073709551616 by omega)
   rw [Nat.add_mul, Nat.one_mul] at this
   rw [Nat.mul_comm P]
   omega
  rw [Nat.add_assoc, Nat.mul_comm H, Nat.mul_add_div (by omega), Nat.div_eq_of_lt l, Nat.add_zero]
namespace M
theorem maskN (a : Nat) (ha : a < 18446744073709551616) : bits .and .u64 (a : Int) 4294967295 = ((a % 4294967296 : Nat) : Int) := by
 have h := bits_and_u64_nat a 4294967295 ha (by omega)
 have e : a &&& 4294967295 = a % 4294967296 := Nat.and_two_pow_sub_one_eq_mod a 32
 rw [e] at h
 exact h
theorem divN (a : Nat) : (a : Int) / 4294967296 = ((a / 4294967296 : Nat) : Int) := by omega
theorem mulN (a b : Nat) : (a : Int) * (b : Int) = ((a * b : Nat) : Int) := (Int.natCast_mul a b).symm
theorem addN (a b : Nat) : (a : Int) + (b : Int) = ((a + b : Nat) : Int) := (Int.natCast_add a b).symm
theorem wrapN (a : Nat) (ha : a < 18446744073709551616) : IntKind.u64.wrap (a : Int) = (a : Int) := by rw [IntKind.wrap_u64]; omega
theorem wrapM (a : Nat) : IntKind.u64.wrap (a : Int) = ((a % 18446744073709551616 : Nat) : Int) := by rw [IntKind.wrap_u64]; omega
end M
set_option maxHeartbeats 1000000 in
theorem mul64_any (x y : Nat) (hx : x < 18446744073709551616) (hy : y < 18446744073709551616) (w : World) :
  Calls Tryz.prog 142 #[.int .u64 (x : Int), .int .u64 (y : Int)] w fun e w' => e = .returned (.tuple #[.int .u64 ((x * y / 18446744073709551616 : Nat) : Int), .int .u64 ((x * y % 18446744073709551616 : Nat) : Int)]) ∧ w' = w := by
 obtain ⟨bd, bt, bw, hhi⟩ := Lib.mul64_hi x y hx hy
 have ba := Lib.half_mul_le (a := x / 4294967296) (b := y / 4294967296) (by omega) (by omega)
 have bb := Lib.half_mul_le (a := x / 4294967296) (b := y % 4294967296) (by omega) (by omega)
 have bc := Lib.half_mul_le (a := x % 4294967296) (b := y / 4294967296) (by omega) (by omega)
 have ba' : x / 4294967296 * (y / 4294967296) < 18446744073709551616 := by omega
 have bb' : x / 4294967296 * (y % 4294967296) < 18446744073709551616 := by omega
 have bc' : x % 4294967296 * (y / 4294967296) < 18446744073709551616 := by omega
 have bh1 : x / 4294967296 * (y / 4294967296) + (x / 4294967296 * (y % 4294967296) + x % 4294967296 * (y % 4294967296) / 4294967296) / 4294967296 < 18446744073709551616 := by omega
 have bh : x / 4294967296 * (y / 4294967296) + (x / 4294967296 * (y % 4294967296) + x % 4294967296 * (y % 4294967296) / 4294967296) / 4294967296 + ((x / 4294967296 * (y % 4294967296) + x % 4294967296 * (y % 4294967296) / 4294967296) % 4294967296 + x % 4294967296 * (y / 4294967296)) / 4294967296 < 18446744073709551616 := by omega
 go_enter Tryz.func142, Tryz.ntmps142
 go_wp2
 simp only [M.maskN x hx, M.maskN y hy, M.divN, M.mulN, M.addN, M.wrapN _ bd, M.wrapN _ bb', M.wrapN _ bt, M.maskN _ bt, M.wrapN _ bc', M.wrapN _ bw, M.wrapN _ ba', M.wrapN _ bh1, M.wrapN _ bh, M.wrapM (x * y)]
 rw [hhi]
 go_ret2
 exact ⟨rfl, rfl⟩
theorem add64c0 (x y lo hi : Nat) (h1 : (x + y) % 18446744073709551616 = lo) (h2 : (x + y) / 18446744073709551616 = hi) (w : World) : (callFunc 117 #[.int .u64 (x : Int), .int .u64 (y : Int), .int .u64 0]).run Tryz.prog w =
  .ok (.value (.tuple #[.int .u64 (lo : Int), .int .u64 (hi : Int)])) w := GG.add64v x y 0 lo hi (by decide) h1 h2 w
end Go.Proofs.YtapikmfckpgjoaaGreatDoor.GN
end
