/- A region that draws its order, by an invariant: each operation is shown once, whatever has come up besides what it waits for. No condition. The walk of the law's script loop: where each call that is played returns true, the loop returns true. Conditions: the script's cells and the kinds' cells are as told. What the rows of this seat share: the door's heap meets the condition on math/bits.deBruijn64tab; how a script opens. No condition beyond the rows' own. -/
import Derived.Test.YthpnmkclboennaaDoorKBinaryNeighboursWMore
import Derived.Test.YthpnmkclboennaaDoorKBinaryNeighboursWTab
import Derived.Test.YthpnmkclboennaaDoorKBinaryNeighboursBinA
import Derived.Deep.LoopGhost
import Derived.Test.YthpnmkclboennaaDoorRows
import Derived.WalkKit
import Derived.ProofKit
import Derived.OpenShut
import Derived.ShutString
import Derived.ChangeOld
import Derived.Below
import Derived.SizedLaws
import Derived.Deep.Slices
import Derived.Deep.Fields
import Derived.ChangeSame
import Derived.LaidMore
import Derived.Stop.Joined
section
namespace Go.Proofs.YthpnmkclboennaaDoor.RegInv
open Go.RowKit Go.Proofs.YthpnmkclboennaaDoorW.PrintWords Go.Proofs.YthpnmkclboennaaDoorW.PrintLast
section
variable {P : Program} {ops : Array Oper} {Q : Exit → Act → World → Prop}
def cnt : List Bool → Nat
  | [] => 0
  | b :: t => (if b then 0 else 1) + cnt t
theorem cnt_set : ∀ (l : List Bool) (i : Nat), l[i]? = some false → cnt (l.set i true) + 1 = cnt l
  | [], i, h => by simp at h
  | b :: t, 0, h => by
    simp at h
    subst h
    simp [cnt]; omega
  | b :: t, i + 1, h => by
    have h2 := cnt_set t i (by simpa using h)
    simp [cnt]; omega
theorem cnt_rep : ∀ n : Nat, cnt (List.replicate n false) = n
  | 0 => rfl
  | n + 1 => by rw [List.replicate_succ, cnt, cnt_rep n]; simp; omega
theorem cnt_zero : ∀ (l : List Bool) (i : Nat), cnt l = 0 → l.getD i true = true
  | [], i, _ => rfl
  | b :: t, 0, h => by
    cases b
    · simp [cnt] at h
    · rfl
  | b :: t, i + 1, h => by
    have : cnt t = 0 := by simp [cnt] at h; omega
    have h2 := cnt_zero t i this
    simpa using h2
def early (T : List (List Nat × List Nat)) : Bool := (List.range T.length).all fun i => match T[i]? with
  | some r => r.1.all (fun j => decide (j < i))
  | none => true
theorem all_of {T : List (List Nat × List Nat)} {l : List Bool} (he : early T = true) (h : readyT T l = []) : ∀ i, i < T.length → l.getD i true = true := by
  intro i
  induction i using Nat.strongRecOn with
  | _ i ih =>
    intro hi
    by_cases hl : l.getD i true = true
    · exact hl
    · exfalso
      have hr : readyAt T l i = true := by
        unfold readyAt
        rw [List.getElem?_eq_getElem hi]
        unfold early at he
        rw [List.all_eq_true] at he
        have hb := he i (List.mem_range.2 hi)
        rw [List.getElem?_eq_getElem hi] at hb
        have hl' : l.getD i true = false := by simpa using hl
        rw [hl']
        simp only [Bool.not_false, Bool.true_and, List.all_eq_true] at hb ⊢
        intro j hj
        have hji : j < i := of_decide_eq_true (hb j hj)
        have h2 := ih j hji (by omega)
        rw [List.getD_eq_getElem?_getD] at h2 ⊢
        cases hc : l[j]? with
        | none =>
          have h3 : l.length ≤ j := List.getElem?_eq_none_iff.1 hc
          exfalso
          rw [List.getD_eq_getElem?_getD, List.getElem?_eq_none (by omega)] at hl'
          cases hl'
        | some b => rw [hc] at h2; exact h2
      have : i ∈ readyT T l := List.mem_filter.2 ⟨List.mem_range.2 hi, hr⟩
      rw [h] at this
      cases this
theorem wpAny_inv {T : List (List Nat × List Nat)} (hT : (rtab .any ops).2 = T) (he : early T = true) (Inv : List Bool → Act → World → Prop)
    (hstep : ∀ l a w i, Inv l a w → readyAt T l i = true → wpOp P ops Q i (fun a' w' => Inv (l.set i true) a' w') a w)
    (hend : ∀ l a w, Inv l a w → (∀ i, i < T.length → l.getD i true = true) → Q .normal a w) :
    ∀ (fuel : Nat) (l : Array Bool) (a : Act) (w : World), cnt l.toList ≤ fuel → Inv l.toList a w → wpAny P .any ops Q fuel l a w
  | 0, l, a, w, hc, hI => by
    have hall : ∀ i, l.toList.getD i true = true := fun i => cnt_zero _ _ (by omega)
    have hr : Region.ready .any ops l = [] := by
      rw [ready_eq, hT]
      apply List.filter_eq_nil_iff.2
      intro i _
      unfold readyAt
      rw [hall i]
      simp
    exact ⟨hr, hend _ _ _ hI (fun i _ => hall i)⟩
  | fuel + 1, l, a, w, hc, hI => by
    refine ⟨fun hr => ?_, fun i hi => ?_⟩
    · rw [ready_eq, hT] at hr
      exact hend _ _ _ hI (all_of he hr)
    · rw [ready_eq, hT] at hi
      obtain ⟨_, hr⟩ := List.mem_filter.1 hi
      refine wpOp_mono (fun a' w' hI' => ?_) (hstep _ _ _ i hI hr)
      refine wpAny_inv hT he Inv hstep hend fuel _ a' w' ?_ (by rw [Array.toList_setIfInBounds]; exact hI')
      rw [Array.toList_setIfInBounds]
      have hf : l.toList[i]? = some false := by
        unfold readyAt at hr
        simp only [Bool.and_eq_true, Bool.not_eq_true'] at hr
        have h1 := hr.1
        rw [List.getD_eq_getElem?_getD] at h1
        cases hc2 : l.toList[i]? with
        | none => rw [hc2] at h1; cases h1
        | some b => rw [hc2] at h1; exact congrArg some h1
      have := cnt_set _ _ hf
      omega
theorem wp_region_inv {id : Nat} {a : Act} {w : World} {T : List (List Nat × List Nat)} (hm : P.follows .mixedOrders = true) (n : Nat) (hn : ops.size = n) (hT : (rtab .any ops).2 = T) (he : early T = true) (Inv : List Bool → Act → World → Prop)
    (h0 : Inv (List.replicate n false) a w.drew)
    (hstep : ∀ l a w i, Inv l a w → readyAt T l i = true → wpOp P ops Q i (fun a' w' => Inv (l.set i true) a' w') a w)
    (hend : ∀ l a w, Inv l a w → (∀ i, i < T.length → l.getD i true = true) → Q .normal a w) : (Code.region id ops true).wp P Q a w := by
  subst hn
  refine wp_region_any hm (wpAny_inv hT he Inv hstep hend _ _ _ _ ?_ ?_)
  · rw [Array.toList_replicate, cnt_rep]; exact Nat.le_refl _
  · rw [Array.toList_replicate]; exact h0
end
end Go.Proofs.YthpnmkclboennaaDoor.RegInv
end
section
namespace Go.Proofs.YthpnmkclboennaaDoor.BinAll
open Go.RowKit Go.Proofs.YthpnmkclboennaaDoorW.PrintWords Go.Proofs.YthpnmkclboennaaDoorW.PrintMore Go.Proofs.YthpnmkclboennaaDoorW.PrintLast Go.Proofs.YthpnmkclboennaaDoor.BinLaw Go.Proofs.YthpnmkclboennaaDoor.BinA
def OnW (W : World) : Ending → World → Prop := fun e w' => e = .returned (.bool true) ∧ Below W.heap.size W w'
theorem wf_u64' {n : Int} (h : (Lit.int .u64 n).wf = true) : ∃ m : Nat, n = (m : Int) ∧ m < 18446744073709551616 := by
  simp [Lit.wf, IntKind.min, IntKind.max, IntKind.signed, IntKind.bits] at h
  exact ⟨n.toNat, by omega, by omega⟩
end Go.Proofs.YthpnmkclboennaaDoor.BinAll
end
section
namespace Go.Proofs.YthpnmkclboennaaDoor.BinRow
open Go.ChangeShapes Go.WideShapes Go.ChangeAt Go.RowKit Go.Deep
set_option linter.unusedVariables false
theorem own : ownKnob Tryd.prog.godebug = none := by kernel_rfl
def tabs : List (String × DataW Unit) := [("math/bits.deBruijn64tab", Rows.laid_math_bits_deBruijn64tab)]
theorem door_met (os : Os) (args : Array Value) : laidMetH Tryd.prog tabs ((World.doorLaid Tryd.prog 14 os).forCall (fun _ _ => 0) ⟨#[], args, []⟩).memory :=
  laidMetH_of_parts3 (fuel := 8) (laidMet_of_run' 8 (by kernel_rfl) (by kernel_rfl)) (by kernel_rfl) (by kernel_rfl)
end Go.Proofs.YthpnmkclboennaaDoor.BinRow
end
