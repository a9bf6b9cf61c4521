/- math/bits.TrailingZeros64 and Len64 as plain functions, their contracts by Px. Condition: math/bits' table is laid. -/
import Derived.Test.YtbfahgbhbhnbnaaDoorKBinaryMiddlesPxBr
import Derived.Test.YtbfahgbhbhnbnaaDoorKBinaryMiddlesGL
import Derived.Test.YtbfahgbhbhnbnaaDoorKBinaryMiddlesGivenD
set_option linter.unusedVariables false
namespace Go.Proofs.YtbfahgbhbhnbnaaDoor.Given
open Go Go.RowKit Go.Proofs.YtbfahgbhbhnbnaaDoorW.PrintWords Go.Proofs.YtbfahgbhbhnbnaaDoorW.PrintMore Go.Proofs.YtbfahgbhbhnbnaaDoor.Px Go.Proofs.YtbfahgbhbhnbnaaDoor.GTab Go.Proofs.YtbfahgbhbhnbnaaDoor.Ref
def bits_TrailingZeros64.f (a0 : Int) : Option Int := if 0 < a0 ∧ a0 < 18446744073709551616 then some ((tz a0.toNat : Nat) : Int) else none
theorem bits_TrailingZeros64.c {a0 : Int} {r : Int} (h : bits_TrailingZeros64.f a0 = some r) : Con Tryd.prog Gw 25 [.s (.i .u64 a0)] (· = .s (.i .i64 r)) := by
 unfold bits_TrailingZeros64.f at h
 split at h
 ·rename_i hb
  have h := Option.some.inj h
  subst h
  refine brg Tryd.func25 (by kernel_rfl) fun w S vs gw hS vs_ => ?_
  obtain ⟨u0, rfl, v0⟩ := a_i vs_
  obtain rfl := a_nil v0
  obtain ⟨x, rfl⟩ : ∃ x : Nat, a0 = (x : Int) := ⟨a0.toNat, by omega⟩
  rw [Int.toNat_natCast]
  have h0 : x ≠ 0 := by omega
  have e : tz x = Lib.ctz 64 x := tz_eq ((GJ.ctz_spec h0 (by omega)).imp fun _ h => h.1)
  refine (tz_any x (by omega) h0 w gw).mono fun e' w' ⟨he, hw⟩ => ?_
  subst hw
  exact ⟨_, _, he, rfl, by rw [e]; rfl, Below.refl _ _⟩
 ·cases h
def bits_Len64.f (a0 : Int) : Option Int := if 0 ≤ a0 ∧ a0 < 18446744073709551616 then some ((bl a0.toNat : Nat) : Int) else none
theorem bits_Len64.c {a0 : Int} {r : Int} (h : bits_Len64.f a0 = some r) : Con Tryd.prog Gw 26 [.s (.i .u64 a0)] (· = .s (.i .i64 r)) := by
 unfold bits_Len64.f at h
 split at h
 ·rename_i hb
  have h := Option.some.inj h
  subst h
  refine brg Tryd.func26 (by kernel_rfl) fun w S vs gw hS vs_ => ?_
  obtain ⟨u0, rfl, v0⟩ := a_i vs_
  obtain rfl := a_nil v0
  obtain ⟨x, rfl⟩ : ∃ x : Nat, a0 = (x : Int) := ⟨a0.toNat, by omega⟩
  rw [Int.toNat_natCast]
  obtain ⟨k, hk⟩ := (GBase.len_ev x (by omega)).rounds
  refine (PLen.bits_Len64.calls k _ _ w hk).mono fun e' w' he => ?_
  exact ⟨_, _, he.1, rfl, rfl, he.2.below⟩
 ·cases h
end Go.Proofs.YtbfahgbhbhnbnaaDoor.Given
