/-  Lists of digits to the base 2^32 as natural numbers: value, the one list without noughts on top, sums of digits. Plain Lean; no program in sight. No condition. The bit length of a natural number. Plain Lean; no program in sight. No condition. -/
import Derived.Test.YtokoadgahflafaaGreatDoorKSoftFixedWWords
import Derived.Test.YtokoadgahflafaaGreatDoorKSoftFixedWN
import Derived.Laws.Bits64
import Derived.Laws.BitsLemmas
import Derived.Laws.MathBits
import Derived.Laws.BitsAllLaws
section
namespace Go.Proofs.YtokoadgahflafaaGreatDoorW.PrintMore
open Go.RowKit Go.Proofs.YtokoadgahflafaaGreatDoorW.PrintWords
theorem max2_int (k k' : IntKind) (x y : Int) : Builtin.max2 (.int k x) (.int k' y) = pure (.int k (if x < y then y else x)) := by simp only [Builtin.max2, gt_iff_lt]
theorem min2_int (k k' : IntKind) (x y : Int) : Builtin.min2 (.int k x) (.int k' y) = pure (.int k (if y < x then y else x)) := by simp only [Builtin.min2]
theorem max_two (ats : Array TypeId) (ty : TypeId) (a b : Value) : Builtin.max_ ats ty #[a, b] = (Builtin.max2 a b >>= fun s => pure s) := by simp only [Builtin.max_, List.foldlM_cons, List.foldlM_nil]
theorem min_two (ats : Array TypeId) (ty : TypeId) (a b : Value) : Builtin.min_ ats ty #[a, b] = (Builtin.min2 a b >>= fun s => pure s) := by simp only [Builtin.min_, List.foldlM_cons, List.foldlM_nil]
theorem max_three (ats : Array TypeId) (ty : TypeId) (a b c : Value) : Builtin.max_ ats ty #[a, b, c] = (Builtin.max2 a b >>= fun s => Builtin.max2 s c >>= fun s => pure s) := by simp only [Builtin.max_, List.foldlM_cons, List.foldlM_nil]
theorem min_three (ats : Array TypeId) (ty : TypeId) (a b c : Value) : Builtin.min_ ats ty #[a, b, c] = (Builtin.min2 a b >>= fun s => Builtin.min2 s c >>= fun s => pure s) := by simp only [Builtin.min_, List.foldlM_cons, List.foldlM_nil]
theorem max_four (ats : Array TypeId) (ty : TypeId) (a b c d : Value) : Builtin.max_ ats ty #[a, b, c, d] = (Builtin.max2 a b >>= fun s => Builtin.max2 s c >>= fun s => Builtin.max2 s d >>= fun s => pure s) := by simp only [Builtin.max_, List.foldlM_cons, List.foldlM_nil]
theorem min_four (ats : Array TypeId) (ty : TypeId) (a b c d : Value) : Builtin.min_ ats ty #[a, b, c, d] = (Builtin.min2 a b >>= fun s => Builtin.min2 s c >>= fun s => Builtin.min2 s d >>= fun s => pure s) := by simp only [Builtin.min_, List.foldlM_cons, List.foldlM_nil]
end Go.Proofs.YtokoadgahflafaaGreatDoorW.PrintMore
namespace Go.Proofs.YtokoadgahflafaaGreatDoorW.PrintWords
open Go.RowKit
def mx (a b : Int) : Int := if a < b then b else a
def mn (a b : Int) : Int := if b < a then b else a
def shl (k : IntKind) (x y : Int) : Int := k.wrap (x * 2 ^ min y.toNat k.bits)
def shr (k : IntKind) (x y : Int) : Int := x / 2 ^ min y.toNat k.bits
end Go.Proofs.YtokoadgahflafaaGreatDoorW.PrintWords
namespace Go.Proofs.YtokoadgahflafaaGreatDoorW.PrintWords
open Go.RowKit
namespace Kd
def V {α : Type} (d : Kd α) (_e : Nat) (W : World) (_base : Nat) (ok : Nat → Prop) (v : Value) (xs : List α) : Prop := ∃ A c, v = .slice A xs.length c ∧ xs.length ≤ c ∧ F d W ok A xs.length xs
end Kd
end Go.Proofs.YtokoadgahflafaaGreatDoorW.PrintWords
end
section
namespace Go.Proofs.YtokoadgahflafaaGreatDoor.Num
open Go.RowKit Go.Proofs.YtokoadgahflafaaGreatDoorW.PrintWords Go.Proofs.YtokoadgahflafaaGreatDoorW.PrintMore
def B : Nat := 4294967296
theorem w64 {x : Int} (h0 : -9223372036854775808 ≤ x) (h1 : x < 9223372036854775808) : wrap64 x = x := by unfold wrap64; omega
theorem wu64 {x : Int} (h0 : 0 ≤ x) (h1 : x < 18446744073709551616) : IntKind.u64.wrap x = x := by rw [IntKind.wrap_u64]; omega
theorem wraps_u64 (n : Int) (h₀ : 0 ≤ n) (h₁ : n < 2 ^ 64) : IntKind.u64.wrap n = n := by rw [IntKind.wrap_u64]; omega
theorem mask32 {x : Int} (h0 : 0 ≤ x) (h1 : x < 18446744073709551616) : Go.bits .and .u64 x 4294967295 = x % 4294967296 :=
 bits_mask .u64 64 (by decide) wraps_u64 32 (by decide) x h0 h1
def vl : List Int → Nat
 | [] => 0
 | d :: t => d.toNat + B * vl t
def pv (l : List Int) (i : Nat) : Nat := vl (l.take i)
end Go.Proofs.YtokoadgahflafaaGreatDoor.Num
end
section
namespace Go.Proofs.YtokoadgahflafaaGreatDoor.Ref
def bl (n : Nat) : Nat := if n = 0 then 0 else n.log2 + 1
theorem bl_lt (n : Nat) : n < 2^(bl n) := by
 unfold bl
 by_cases h : n = 0
 ·rw [if_pos h, h]; decide
 ·rw [if_neg h]; exact Nat.lt_log2_self
theorem bl_ge {n : Nat} (h : n ≠ 0) : 2^(bl n - 1) ≤ n := by
 unfold bl; rw [if_neg h]; exact Nat.log2_self_le h
theorem bl_le_of_lt {n k : Nat} (h : n < 2^k) : bl n ≤ k := by
 by_cases hc : bl n ≤ k
 ·exact hc
 ·have h0 : n ≠ 0 := by intro e; subst e; unfold bl at hc; simp at hc
  have h1 := bl_ge h0
  have := Nat.pow_le_pow_right (n := 2) (by decide) (show k ≤ bl n - 1 by omega)
  omega
theorem bl_mono {a b : Nat} (h : a ≤ b) : bl a ≤ bl b := bl_le_of_lt (Nat.lt_of_le_of_lt h (bl_lt b))
theorem bl_shift (x b : Nat) (h : x / 2^b ≠ 0) : bl x = b + bl (x / 2^b) := bitLen_shift x b h
end Go.Proofs.YtokoadgahflafaaGreatDoor.Ref
end
