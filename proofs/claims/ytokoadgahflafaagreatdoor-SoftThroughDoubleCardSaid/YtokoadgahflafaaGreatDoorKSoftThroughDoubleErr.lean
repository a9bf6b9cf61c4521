/- Which whole numbers are numbers of a format; differences of near ones (Sterbenz); errors of sums. Plain Lean. Conditions: formats. Errors of rounded sums and products are numbers of the format. Plain Lean. Conditions: formats. -/
import Derived.Test.YtokoadgahflafaaGreatDoorKSoftThroughDoubleSq
section
set_option linter.unusedVariables false
namespace Go.Proofs.YtokoadgahflafaaGreatDoor.Rep
open Go.Proofs.YtokoadgahflafaaGreatDoor.BinLaw Go.Proofs.YtokoadgahflafaaGreatDoor.Ref Go.Proofs.YtokoadgahflafaaGreatDoor.Fm8 Go.Proofs.YtokoadgahflafaaGreatDoor.Rnd Go.Proofs.YtokoadgahflafaaGreatDoor.Sq
theorem rep_of {f : Int} {F : Fmt} (h : Fm f F) : ∀ (e q : Nat), q < 2 * hdF F → ∃ u, nF F u = q * 2^e := by
 intro e
 induction e with
 | zero =>
  intro q hq
  have := (nF_at h (j := 0) hq (.inl rfl)).1
  exact ⟨_, this⟩
 | succ e ih =>
  intro q hq
  by_cases c : hdF F ≤ q
  ·exact ⟨_, (nF_at h (j := e + 1) hq (.inr c)).1⟩
  ·obtain ⟨u, hu⟩ := ih (2 * q) (by omega)
   refine ⟨u, ?_⟩
   rw [hu, Nat.pow_succ]
   rw [Nat.mul_comm 2 q, Nat.mul_assoc, Nat.mul_comm 2]
theorem mg_lt1 {f : Int} {F : Fmt} (h : Fm f F) (s : Nat) : mgF F s < 2 * hdF F := by
 have h0 := (fm_hd h).1
 have := Nat.mod_lt s h0
 unfold mgF
 split <;> omega
theorem dF_mono {F : Fmt} {s t : Nat} (h : s ≤ t) : dF F s ≤ dF F t := by
 unfold dF
 have := Nat.div_le_div_right (c := hdF F) h
 omega
end Go.Proofs.YtokoadgahflafaaGreatDoor.Rep
end
section
set_option linter.unusedVariables false
namespace Go.Proofs.YtokoadgahflafaaGreatDoor.Err
open Go.Proofs.YtokoadgahflafaaGreatDoor.BinLaw Go.Proofs.YtokoadgahflafaaGreatDoor.Ref Go.Proofs.YtokoadgahflafaaGreatDoor.Fm8 Go.Proofs.YtokoadgahflafaaGreatDoor.Rnd Go.Proofs.YtokoadgahflafaaGreatDoor.Sq Go.Proofs.YtokoadgahflafaaGreatDoor.Rep
def ds (a b : Nat) : Nat := (a - b) + (b - a)
theorem near {f : Int} {F : Fmt} (h : Fm f F) {V u : Nat} (hn : Nst F 0 V u) (hu : u < F.inf) (z : Nat) : ds V (nF F u) ≤ ds V (nF F z) := by
 have md0 : ∀ s, md F 0 s = nF F s + nF F (s + 1) := fun s => by unfold md; rw [Nat.pow_zero, Nat.mul_one]
 have up := hn.up hu
 rw [md0] at up
 unfold ds
 rcases Nat.lt_trichotomy z u with c | c | c
 ·obtain ⟨t, rfl⟩ : ∃ t, u = t + 1 := ⟨u - 1, by omega⟩
  have dn := hn.dn t rfl
  rw [md0] at dn
  have a := nF_le h (show z ≤ t by omega)
  have b := nF_step h t
  omega
 ·rw [c]; exact Nat.le_refl _
 ·have a := nF_le h (show u + 1 ≤ z by omega)
  have b := nF_step h u
  omega
theorem exact_of {f : Int} {F : Fmt} (h : Fm f F) {V u v : Nat} (hn : Nst F 0 V u) (hv : v ≤ F.inf) (e : nF F v = V) : u = v := by
 have r := rsz_self h (g := 0) hv
 rw [Nat.pow_zero, Nat.mul_one, e] at r
 rw [← rsz_eq h hn]; exact r
theorem rep_of' {f : Int} {F : Fmt} (h : Fm f F) (k q : Nat) (hq : q ≤ 2 * hdF F) : ∃ u, nF F u = q * 2^k := by
 by_cases c : q < 2 * hdF F
 ·exact rep_of h k q c
 ·have h0 := (fm_hd h).1
  obtain ⟨u, hu⟩ := rep_of h (k + 1) (hdF F) (by omega)
  refine ⟨u, ?_⟩
  rw [hu, show q = hdF F * 2 by omega, Nat.pow_succ, Nat.mul_assoc, Nat.mul_comm 2]
end Go.Proofs.YtokoadgahflafaaGreatDoor.Err
end
