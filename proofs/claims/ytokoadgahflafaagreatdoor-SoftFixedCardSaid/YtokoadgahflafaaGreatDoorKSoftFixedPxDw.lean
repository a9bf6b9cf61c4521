/- nat.DivWord as a given function: plain, and its contract by Px. Conditions: a list in form, at most 8192 limbs; the divisor not nought; math/bits' table is laid. -/
import Derived.Test.YtokoadgahflafaaGreatDoorKSoftFixedGM
import Derived.Test.YtokoadgahflafaaGreatDoorKSoftFixedDv
import Derived.Test.YtokoadgahflafaaGreatDoorKSoftFixedGiven
set_option linter.unusedVariables false
namespace Go.Proofs.YtokoadgahflafaaGreatDoor.Given
open Go Go.RowKit Go.Proofs.YtokoadgahflafaaGreatDoorW.PrintWords Go.Proofs.YtokoadgahflafaaGreatDoorW.PrintMore Go.Proofs.YtokoadgahflafaaGreatDoor.Px Go.Proofs.YtokoadgahflafaaGreatDoor.GTab Go.Proofs.YtokoadgahflafaaGreatDoor.GTh Go.Proofs.YtokoadgahflafaaGreatDoor.GM
theorem divC (y : Nat) (hy : y < 18446744073709551616) : DivC y := by
 intro hi lo w hT h1 h2
 obtain ⟨k, hk⟩ := (Dv.div64_ev hi lo y hy h1 h2).rounds
 have c := PLib.bits_Div64.c hk
 refine (c.2 w (fun _ => False) [.int .u64 (hi : Int), .int .u64 (lo : Int), .int .u64 (y : Int)] hT (fun _ h => h.elim) (.cons rfl (.cons rfl (.cons rfl .nil)))).mono fun e w' ⟨v, x, he, hx, hr, hb⟩ => ?_
 subst hx
 obtain ⟨vs, rfl, hv⟩ := hr
 cases hv with
 | cons a1 hv =>
 cases hv with
 | cons a2 hv =>
 cases hv
 obtain rfl := a1
 obtain rfl := a2
 exact ⟨he, hb⟩
def nat_DivWord.f (l0 : List Int) (a1 : Int) : Option (List Int × Int × Int) := if fmL l0 = true ∧ 0 < a1 ∧ a1 < 18446744073709551616 then some (lb (vL l0 / a1.toNat), ((vL l0 % a1.toNat : Nat) : Int), 0) else none
theorem nat_DivWord.c {l0 : List Int} {a1 : Int} {r : List Int × Int × Int} (h : nat_DivWord.f l0 a1 = some r) : Con Tryz.prog Gw 158 [.s (.sl .u64 l0), .s (.i .u64 a1)] (· = .tu [.s (.sl .u64 r.1), .s (.i .u64 r.2.1), .s (.i .i64 r.2.2)]) := by
 unfold nat_DivWord.f at h
 split at h
 ·rename_i c
  have h := Option.some.inj h
  subst h
  refine brg Tryz.func158 (by kernel_rfl) fun w S vs gw hS vs_ => ?_
  obtain ⟨A0, c0, u0, rfl, hc0, hr0, v0⟩ := a_sl vs_
  obtain ⟨u1, rfl, v1⟩ := a_i v0
  obtain rfl := a_nil v1
  obtain ⟨h1, h2, h3⟩ := fmL_iff.1 c.1
  obtain ⟨y, rfl⟩ : ∃ y : Nat, a1 = (y : Int) := ⟨a1.toNat, by have := c.2.1; omega⟩
  rw [Int.toNat_natCast]
  have run := divWord_any w A0 c0 (vL l0) y (nt_of hr0 hc0 c.1) (by omega) (by omega) (divC y (by omega)) gw
  rw [← h2] at run
  refine run.mono fun e w' ⟨v, he, ha⟩ => ?_
  obtain ⟨hR, hb⟩ := R_of ha
  exact ⟨_, _, he, rfl, ⟨[v, _, _], rfl, .cons (ofR hR hS) (.cons rfl (.cons rfl .nil))⟩, hb⟩
 ·cases h
end Go.Proofs.YtokoadgahflafaaGreatDoor.Given
