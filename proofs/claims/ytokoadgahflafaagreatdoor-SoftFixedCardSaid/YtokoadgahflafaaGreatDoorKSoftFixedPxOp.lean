/- Operands of layer 9 as plain values: how an interface value stands for them, and cases. Plain lemmas. No condition. -/
import Derived.Test.YtokoadgahflafaaGreatDoorKSoftFixedPxK
set_option linter.unusedVariables false
namespace Go.Proofs.YtokoadgahflafaaGreatDoor.Px
open Go Go.RowKit Go.Proofs.YtokoadgahflafaaGreatDoorW.PrintWords Go.Proofs.YtokoadgahflafaaGreatDoorW.PrintMore
inductive Opd where
 | nan
 | inf (n : Bool)
 | nou (n : Bool)
 | num (n : Bool) (l : List Int) (x : Int)
def opT : Opd → TypeId
 | .nan => 144
 | .inf _ => 95
 | .nou _ => 94
 | .num _ _ _ => 88
def opL : Opd → List IC
 | .nan => []
 | .inf n => [.b n]
 | .nou n => [.b n]
 | .num n l x => [.b n, .sl .u64 l, .i .i64 x]
def opm {α : Type} (x : Opd) (a : α) (b c : Bool → α) (d : Bool → List Int → Int → α) : α :=
 match x with
 | .nan => a
 | .inf n => b n
 | .nou n => c n
 | .num n l x => d n l x
theorem opm_e {α : Type} {x : Opd} {a : Option α} {b c : Bool → Option α} {d : Bool → List Int → Int → Option α} {r : α} (h : opm x a b c d = some r) :
  (x = .nan ∧ a = some r) ∨ (∃ n, x = .inf n ∧ b n = some r) ∨ (∃ n, x = .nou n ∧ c n = some r) ∨ (∃ n l y, x = .num n l y ∧ d n l y = some r) := by
 cases x with
 | nan => exact .inl ⟨rfl, h⟩
 | inf n => exact .inr (.inl ⟨n, rfl, h⟩)
 | nou n => exact .inr (.inr (.inl ⟨n, rfl, h⟩))
 | num n l y => exact .inr (.inr (.inr ⟨n, l, y, rfl, h⟩))
theorem op_e {x y : Opd} (h : x = y) : (PV.s (.ifc (opT x) (opL x))) = .s (.ifc (opT y) (opL y)) := by rw [h]
theorem LeO.opm {α : Type} {x : Opd} {a a' : Option α} {b c b' c' : Bool → Option α} {d d' : Bool → List Int → Int → Option α} (h1 : LeO a a') (h2 : ∀ n, LeO (b n) (b' n)) (h3 : ∀ n, LeO (c n) (c' n)) (h4 : ∀ n l y, LeO (d n l y) (d' n l y)) :
  LeO (opm x a b c d) (opm x a' b' c' d') := by
 cases x with
 | nan => exact h1
 | inf n => exact h2 n
 | nou n => exact h3 n
 | num n l y => exact h4 n l y
end Go.Proofs.YtokoadgahflafaaGreatDoor.Px
