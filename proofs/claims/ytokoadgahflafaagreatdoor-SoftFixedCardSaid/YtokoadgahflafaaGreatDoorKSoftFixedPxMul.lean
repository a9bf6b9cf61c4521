/- natmul.Mul and natmul.Sqr as given functions: plain, and their contracts by Px. Conditions: lists in form; the shorter one has fewer than 40 limbs. -/
import Derived.Test.YtokoadgahflafaaGreatDoorKSoftFixedGP
import Derived.Test.YtokoadgahflafaaGreatDoorKSoftFixedGiven
import Derived.Test.YtokoadgahflafaaGreatDoorKSoftFixedPxBr
set_option linter.unusedVariables false
namespace Go.Proofs.YtokoadgahflafaaGreatDoor.Given
open Go Go.RowKit Go.Proofs.YtokoadgahflafaaGreatDoorW.PrintWords Go.Proofs.YtokoadgahflafaaGreatDoorW.PrintMore Go.Proofs.YtokoadgahflafaaGreatDoor.Px Go.Proofs.YtokoadgahflafaaGreatDoor.GTab Go.Proofs.YtokoadgahflafaaGreatDoor.GTh Go.Proofs.YtokoadgahflafaaGreatDoor.GP Go.Proofs.YtokoadgahflafaaGreatDoor.GA Go.Proofs.YtokoadgahflafaaGreatDoor.GC
theorem anT_rep {w w' : World} {v : Value} {x : Nat} {S : Nat → Prop} (h : AnT w w' v x) (hS : ∀ b, S b → b < w.heap.size) (hx : nl x ≤ 8192) : RepC w' S none' (.sl .u64 (lb x)) v ∧ Below w.heap.size w w' := by
 obtain ⟨⟨G, N, c, rfl, o, h1, h2, h3⟩⟩ := h
 refine ⟨⟨some ⟨G, 0, none⟩, c, by rw [lb_len], by rw [lb_len]; exact h2, .inr ⟨G, 0, rfl, ⟨fun hs => by have := hS _ hs; have := o.le; omega, by rw [lb_len]; omega⟩, fun j d hj => ?_⟩⟩, o.below⟩
 have hj2 : j < nl x := by
  have := (List.getElem?_eq_some_iff.1 hj).1
  rwa [lb_len] at this
 rw [lb_at hj2] at hj
 obtain rfl := Option.some.inj hj
 rw [Nat.zero_add]
 exact o.cell (by omega)
def natmul_Mul.f (l0 l1 : List Int) : Option (List Int × Int) := if fmL l0 = true ∧ fmL l1 = true ∧ (l0.length < 40 ∨ l1.length < 40) ∧ nl (vL l0 * vL l1) ≤ 8192 then some (lb (vL l0 * vL l1), 0) else none
theorem natmul_Mul.c {l0 l1 : List Int} {r : List Int × Int} (h : natmul_Mul.f l0 l1 = some r) : Con Tryz.prog Gw 177 [.s (.sl .u64 l0), .s (.sl .u64 l1)] (· = .tu [.s (.sl .u64 r.1), .s (.i .i64 r.2)]) := by
 unfold natmul_Mul.f at h
 split at h
 ·rename_i c
  have h := Option.some.inj h
  subst h
  refine brg Tryz.func177 (by kernel_rfl) fun w S vs gw hS vs_ => ?_
  obtain ⟨A0, c0, u0, rfl, hc0, hr0, v0⟩ := a_sl vs_
  obtain ⟨A1, c1, u1, rfl, hc1, hr1, v1⟩ := a_sl v0
  obtain rfl := a_nil v1
  obtain ⟨h1, h2, h3⟩ := fmL_iff.1 c.1
  obtain ⟨k1, k2, k3⟩ := fmL_iff.1 c.2.1
  have run := mul_any w A0 A1 c0 c1 (vL l0) (vL l1) (nt_of hr0 hc0 c.1) (nt_of hr1 hc1 c.2.1) (fillC_short (by omega) (by omega) (by rw [← h2, ← k2]; exact c.2.2.1)) (by omega) (by omega) c.2.2.2
  rw [← h2, ← k2] at run
  refine run.mono fun e w' ⟨v, he, ha⟩ => ?_
  obtain ⟨hR, hb⟩ := anT_rep ha hS c.2.2.2
  exact ⟨_, _, he, rfl, ⟨[v, _], rfl, .cons hR (.cons rfl .nil)⟩, hb⟩
 ·cases h
end Go.Proofs.YtokoadgahflafaaGreatDoor.Given
