/- The bit length of a natural number. Plain Lean; no program in sight. No condition.  -/
import Derived.Laws.MathBits
import Derived.Laws.BitsAllLaws
import Derived.Test.YtapikmfckpgjoaaGreatDoorKDdMulsWMore
import Derived.Test.YtapikmfckpgjoaaGreatDoorKDdMulsWWords
import Derived.Test.YtapikmfckpgjoaaGreatDoorKDdMulsWLast
section
namespace Go.Proofs.YtapikmfckpgjoaaGreatDoor.Ref
def bl (n : Nat) : Nat := if n = 0 then 0 else n.log2 + 1
theorem bl_lt (n : Nat) : n < 2^(bl n) := by
 unfold bl
 by_cases h : n = 0
 ·rw [if_pos h, h]; decide
 ·rw [if_neg h]; exact Nat.lt_log2_self
theorem bl_ge {n : Nat} (h : n ≠ 0) : 2^(bl n - 1) ≤ n := by
 unfold bl; rw [if_neg h]; exact Nat.log2_self_le h
theorem bl_of {n k : Nat} (h1 : n < 2^k) (h2 : k = 0 ∨ 2^(k-1) ≤ n) : bl n = k := by
 unfold bl
 by_cases h : n = 0
 ·rw [if_pos h]
  rcases h2 with h2 | h2
  ·exact h2.symm
  ·have := Nat.two_pow_pos (k - 1); omega
 ·rw [if_neg h]
  have hk : k ≠ 0 := by intro e; rw [e] at h1; simp at h1; exact h h1
  rcases h2 with h2 | h2
  ·exact absurd h2 hk
  ·have := (Nat.log2_eq_iff h).2 ⟨h2, by rw [show k - 1 + 1 = k from by omega]; exact h1⟩
   omega
theorem bl_half {n : Nat} (h : n ≠ 0) : bl n = bl (n / 2) + 1 := by
 apply bl_of
 ·have := bl_lt (n / 2)
  rw [Nat.pow_succ]; omega
 ·right
  rw [Nat.add_sub_cancel]
  by_cases h2 : n / 2 = 0
  ·rw [h2]; unfold bl; simp; omega
  ·have := bl_ge h2
   have e : bl (n / 2) = bl (n / 2) - 1 + 1 := by
    have : bl (n / 2) ≠ 0 := by unfold bl; rw [if_neg h2]; omega
    omega
   rw [e, Nat.pow_succ]; omega
theorem bl_le_of_lt {n k : Nat} (h : n < 2^k) : bl n ≤ k := by
 by_cases hc : bl n ≤ k
 ·exact hc
 ·have h0 : n ≠ 0 := by intro e; subst e; unfold bl at hc; simp at hc
  have h1 := bl_ge h0
  have := Nat.pow_le_pow_right (n := 2) (by decide) (show k ≤ bl n - 1 by omega)
  omega
theorem bl_mul (m d : Nat) (h : m ≠ 0) : bl (m * 2^d) = bl m + d := by
 have h1 := bl_lt m
 have h2 := bl_ge h
 have h3 : bl m ≠ 0 := by unfold bl; rw [if_neg h]; omega
 apply bl_of
 ·rw [Nat.pow_add]; exact Nat.mul_lt_mul_of_pos_right h1 (Nat.two_pow_pos d)
 ·right
  rw [show bl m + d - 1 = bl m - 1 + d from by omega, Nat.pow_add]
  exact Nat.mul_le_mul_right _ h2
theorem bl_mono {a b : Nat} (h : a ≤ b) : bl a ≤ bl b := bl_le_of_lt (Nat.lt_of_le_of_lt h (bl_lt b))
end Go.Proofs.YtapikmfckpgjoaaGreatDoor.Ref
end
section
namespace Go.Proofs.YtapikmfckpgjoaaGreatDoorW.PrintWords
open Go.RowKit
section
variable {w w' u : World} {m B g : Nat} {o : Obj} {row : Option Nat} {S : Nat → Prop} {a : Addr} {v : Value}
theorem below_at (hq : w.drewN m = w') (h : Below B u w) : Below B u w' := by subst hq; exact pw_below_drewN h m
end
namespace Kd
section
variable {α : Type} {d : Kd α} {e base n m : Nat} {ok : Nat → Prop} {w w' : World} {v : Value} {A : Option Addr} {xs : List α}
theorem R_at (hq : w.drewN m = w') (h : d.R e w base ok v xs) : d.R e w' base ok v xs := by subst hq; exact R_drewN h m
end
end Kd
end Go.Proofs.YtapikmfckpgjoaaGreatDoorW.PrintWords
end
section
namespace Go.Proofs.YtapikmfckpgjoaaGreatDoorW.PrintWords
theorem Reps.one {α : Type} {R : α → List Value → Prop} {ps : List α} {cs : List Value} {p : α} {v : Value} (hp : R p [v]) (h : Reps R 1 ps cs) : Reps R 1 (p :: ps) (v :: cs) := by
 refine ⟨by simp [h.1], fun j q hq => ?_⟩
 cases j with
 | zero =>
  simp only [List.getElem?_cons_zero, Option.some.injEq] at hq
  subst hq
  simpa using hp
 | succ j =>
  simp only [List.getElem?_cons_succ] at hq
  have h1 := h.2 j q hq
  simpa [Nat.mul_one] using h1
theorem Reps.front {α : Type} {R : α → List Value → Prop} {size : Nat} {ps : List α} {cs c all : List Value} {p : α} (hp : R p c) (hc : c.length = size) (h : Reps R size ps cs) (ha : c ++ cs = all) : Reps R size (p :: ps) all := by
 subst ha
 refine ⟨by rw [List.length_append, hc, h.1, List.length_cons, Nat.succ_mul, Nat.add_comm], fun j q hq => ?_⟩
 cases j with
 | zero =>
  simp only [List.getElem?_cons_zero, Option.some.injEq] at hq
  subst hq
  rw [Nat.zero_mul, List.drop_zero, List.take_append_of_le_length (by omega), List.take_of_length_le (by omega)]
  exact hp
 | succ j =>
  simp only [List.getElem?_cons_succ] at hq
  have h1 := h.2 j q hq
  rw [Nat.succ_mul, List.drop_append, List.drop_of_length_le (by rw [hc]; exact Nat.le_add_left _ _), List.nil_append, hc, Nat.add_sub_cancel]
  exact h1
theorem Reps.c2 {α : Type} {R : α → List Value → Prop} {ps : List α} {cs : List Value} {p : α} {va vb : Value} (hp : R p [va, vb]) (h : Reps R 2 ps cs) : Reps R 2 (p :: ps) (va :: vb :: cs) := Reps.front hp rfl h rfl
theorem Reps.c3 {α : Type} {R : α → List Value → Prop} {ps : List α} {cs : List Value} {p : α} {va vb vc : Value} (hp : R p [va, vb, vc]) (h : Reps R 3 ps cs) : Reps R 3 (p :: ps) (va :: vb :: vc :: cs) := Reps.front hp rfl h rfl
theorem Reps.c4 {α : Type} {R : α → List Value → Prop} {ps : List α} {cs : List Value} {p : α} {va vb vc vd : Value} (hp : R p [va, vb, vc, vd]) (h : Reps R 4 ps cs) : Reps R 4 (p :: ps) (va :: vb :: vc :: vd :: cs) := Reps.front hp rfl h rfl
theorem Reps.c5 {α : Type} {R : α → List Value → Prop} {ps : List α} {cs : List Value} {p : α} {va vb vc vd ve : Value} (hp : R p [va, vb, vc, vd, ve]) (h : Reps R 5 ps cs) : Reps R 5 (p :: ps) (va :: vb :: vc :: vd :: ve :: cs) := Reps.front hp rfl h rfl
theorem Reps.c6 {α : Type} {R : α → List Value → Prop} {ps : List α} {cs : List Value} {p : α} {va vb vc vd ve vf : Value} (hp : R p [va, vb, vc, vd, ve, vf]) (h : Reps R 6 ps cs) : Reps R 6 (p :: ps) (va :: vb :: vc :: vd :: ve :: vf :: cs) := Reps.front hp rfl h rfl
theorem Reps.c7 {α : Type} {R : α → List Value → Prop} {ps : List α} {cs : List Value} {p : α} {va vb vc vd ve vf vg : Value} (hp : R p [va, vb, vc, vd, ve, vf, vg]) (h : Reps R 7 ps cs) : Reps R 7 (p :: ps) (va :: vb :: vc :: vd :: ve :: vf :: vg :: cs) := Reps.front hp rfl h rfl
theorem Reps.c8 {α : Type} {R : α → List Value → Prop} {ps : List α} {cs : List Value} {p : α} {va vb vc vd ve vf vg vh : Value} (hp : R p [va, vb, vc, vd, ve, vf, vg, vh]) (h : Reps R 8 ps cs) : Reps R 8 (p :: ps) (va :: vb :: vc :: vd :: ve :: vf :: vg :: vh :: cs) := Reps.front hp rfl h rfl
theorem Reps.c9 {α : Type} {R : α → List Value → Prop} {ps : List α} {cs : List Value} {p : α} {va vb vc vd ve vf vg vh vi : Value} (hp : R p [va, vb, vc, vd, ve, vf, vg, vh, vi]) (h : Reps R 9 ps cs) : Reps R 9 (p :: ps) (va :: vb :: vc :: vd :: ve :: vf :: vg :: vh :: vi :: cs) := Reps.front hp rfl h rfl
theorem Reps.c10 {α : Type} {R : α → List Value → Prop} {ps : List α} {cs : List Value} {p : α} {va vb vc vd ve vf vg vh vi vj : Value} (hp : R p [va, vb, vc, vd, ve, vf, vg, vh, vi, vj]) (h : Reps R 10 ps cs) : Reps R 10 (p :: ps) (va :: vb :: vc :: vd :: ve :: vf :: vg :: vh :: vi :: vj :: cs) := Reps.front hp rfl h rfl
end Go.Proofs.YtapikmfckpgjoaaGreatDoorW.PrintWords
end
section
namespace Go.Proofs.YtapikmfckpgjoaaGreatDoorW.PrintLast
def up (b : Nat → Bool) (i : Nat) : Nat → Bool := fun j => if j = i then true else b j
end Go.Proofs.YtapikmfckpgjoaaGreatDoorW.PrintLast
end
section
namespace Go.Proofs.YtapikmfckpgjoaaGreatDoorW.PrintWords
open Go.RowKit
section
variable {P : Program} {ops : Array Oper} {rest : List Oper} {o : Oper} {a : Act} {Q : Exit → Act → World → Prop} {W : World}
theorem gate_guard (hw : Region.wanted o (yielded ops a.tmps) = true) (h : wpList P ops Q ({ o with guard := none } :: rest) a W) : wpList P ops Q (o :: rest) a W := by
 have h1 : Region.wanted { o with guard := none } (yielded ops a.tmps) = true := rfl
 unfold wpList at h ⊢
 rw [if_pos h1] at h
 rw [if_pos hw]
 exact h
end
end Go.Proofs.YtapikmfckpgjoaaGreatDoorW.PrintWords
end
