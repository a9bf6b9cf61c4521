/- The given functions' contracts (Given) as contracts of Px. Condition: as there. math/bits.TrailingZeros64 and Len64 as plain functions, their contracts by Px. Condition: math/bits' table is laid. -/
import Derived.Test.YtelfmddcjlocpaaGreatDoorKRoundNearestsPxBr
import Derived.Test.YtelfmddcjlocpaaGreatDoorKRoundNearestsGiven
import Derived.Test.YtelfmddcjlocpaaGreatDoorKRoundNearestsGivenD
section
set_option linter.unusedVariables false
namespace Go.Proofs.YtelfmddcjlocpaaGreatDoor.Given
open Go Go.RowKit Go.Proofs.YtelfmddcjlocpaaGreatDoorW.PrintWords Go.Proofs.YtelfmddcjlocpaaGreatDoorW.PrintMore Go.Proofs.YtelfmddcjlocpaaGreatDoor.Px
theorem nat_Bits.c {l0 : List Int} {r : Int} (h : nat_Bits.f l0 = some r) : Con Tryz.prog Gw 36 [.s (.sl .u64 l0)] (· = .s (.i .i64 r)) := by
 refine brg Tryz.func36 (by kernel_rfl) fun w S vs gw hS vs_ => ?_
 obtain ⟨A0, c0, u0, rfl, hc0, hr0, v0⟩ := a_sl vs_
 obtain rfl := a_nil v0
 exact (nat_Bits.calls A0 c0 l0 r w hr0 hc0 h).mono fun e w' ⟨he, hb⟩ => ⟨_, _, he, rfl, rfl, hb⟩
theorem nat_Trail.c {l0 : List Int} {r : Int} (h : nat_Trail.f l0 = some r) : Con Tryz.prog Gw 92 [.s (.sl .u64 l0)] (· = .s (.i .i64 r)) := by
 refine brg Tryz.func92 (by kernel_rfl) fun w S vs gw hS vs_ => ?_
 obtain ⟨A0, c0, u0, rfl, hc0, hr0, v0⟩ := a_sl vs_
 obtain rfl := a_nil v0
 exact (nat_Trail.calls A0 c0 l0 r w hr0 hc0 gw h).mono fun e w' ⟨he, hb⟩ => ⟨_, _, he, rfl, rfl, hb⟩
theorem nat_Shl.c {l0 : List Int} {a1 : Int} {r : List Int × Int} (h : nat_Shl.f l0 a1 = some r) : Con Tryz.prog Gw 37 [.s (.sl .u64 l0), .s (.i .i64 a1)] (· = .tu [.s (.sl .u64 r.1), .s (.i .i64 r.2)]) := by
 refine brg Tryz.func37 (by kernel_rfl) fun w S vs gw hS vs_ => ?_
 obtain ⟨A0, c0, u0, rfl, hc0, hr0, v0⟩ := a_sl vs_
 obtain ⟨u1, rfl, v1⟩ := a_i v0
 obtain rfl := a_nil v1
 exact (nat_Shl.calls A0 c0 l0 a1 r.1 r.2 w hr0 hc0 h).mono fun e w' ⟨v0_, he, hR_v0_, hb⟩ => ⟨_, _, he, rfl, ⟨[v0_, .int .i64 r.2], rfl, (.cons (ofR hR_v0_ hS) (.cons rfl .nil))⟩, hb⟩
theorem nat_Shr.c {l0 : List Int} {a1 : Int} {r : List Int × Int} (h : nat_Shr.f l0 a1 = some r) : Con Tryz.prog Gw 82 [.s (.sl .u64 l0), .s (.i .i64 a1)] (· = .tu [.s (.sl .u64 r.1), .s (.i .i64 r.2)]) := by
 refine brg Tryz.func82 (by kernel_rfl) fun w S vs gw hS vs_ => ?_
 obtain ⟨A0, c0, u0, rfl, hc0, hr0, v0⟩ := a_sl vs_
 obtain ⟨u1, rfl, v1⟩ := a_i v0
 obtain rfl := a_nil v1
 exact (nat_Shr.calls A0 c0 l0 a1 r.1 r.2 w hr0 hc0 h).mono fun e w' ⟨v0_, he, hR_v0_, hb⟩ => ⟨_, _, he, rfl, ⟨[v0_, .int .i64 r.2], rfl, (.cons (ofR hR_v0_ hS) (.cons rfl .nil))⟩, hb⟩
theorem nat_Add.c {l0 : List Int} {l1 : List Int} {r : List Int × Int} (h : nat_Add.f l0 l1 = some r) : Con Tryz.prog Gw 85 [.s (.sl .u64 l0), .s (.sl .u64 l1)] (· = .tu [.s (.sl .u64 r.1), .s (.i .i64 r.2)]) := by
 refine brg Tryz.func85 (by kernel_rfl) fun w S vs gw hS vs_ => ?_
 obtain ⟨A0, c0, u0, rfl, hc0, hr0, v0⟩ := a_sl vs_
 obtain ⟨A1, c1, u1, rfl, hc1, hr1, v1⟩ := a_sl v0
 obtain rfl := a_nil v1
 exact (nat_Add.calls A0 c0 l0 A1 c1 l1 r.1 r.2 w hr0 hc0 hr1 hc1 h).mono fun e w' ⟨v0_, he, hR_v0_, hb⟩ => ⟨_, _, he, rfl, ⟨[v0_, .int .i64 r.2], rfl, (.cons (ofR hR_v0_ hS) (.cons rfl .nil))⟩, hb⟩
end Go.Proofs.YtelfmddcjlocpaaGreatDoor.Given
end
section
set_option linter.unusedVariables false
namespace Go.Proofs.YtelfmddcjlocpaaGreatDoor.Given
open Go Go.RowKit Go.Proofs.YtelfmddcjlocpaaGreatDoorW.PrintWords Go.Proofs.YtelfmddcjlocpaaGreatDoorW.PrintMore Go.Proofs.YtelfmddcjlocpaaGreatDoor.Px Go.Proofs.YtelfmddcjlocpaaGreatDoor.GTab Go.Proofs.YtelfmddcjlocpaaGreatDoor.Ref
def bits_Len64.f (a0 : Int) : Option Int := if 0 ≤ a0 ∧ a0 < 18446744073709551616 then some ((bl a0.toNat : Nat) : Int) else none
theorem bits_Len64.c {a0 : Int} {r : Int} (h : bits_Len64.f a0 = some r) : Con Tryz.prog Gw 72 [.s (.i .u64 a0)] (· = .s (.i .i64 r)) := by
 unfold bits_Len64.f at h
 split at h
 ·rename_i hb
  have h := Option.some.inj h
  subst h
  refine brg Tryz.func72 (by kernel_rfl) fun w S vs gw hS vs_ => ?_
  obtain ⟨u0, rfl, v0⟩ := a_i vs_
  obtain rfl := a_nil v0
  obtain ⟨x, rfl⟩ : ∃ x : Nat, a0 = (x : Int) := ⟨a0.toNat, by omega⟩
  rw [Int.toNat_natCast]
  obtain ⟨k, hk⟩ := (GBase.len_ev x (by omega)).rounds
  refine (PLen.bits_Len64.calls k _ _ w hk).mono fun e' w' he => ?_
  exact ⟨_, _, he.1, rfl, rfl, he.2.below⟩
 ·cases h
end Go.Proofs.YtelfmddcjlocpaaGreatDoor.Given
end
