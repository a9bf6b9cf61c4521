/- Printed functions' contracts as contracts of Px. Condition: math/bits' table is laid. -/
import Derived.Test.YtelfmddcjlocpaaGreatDoorKRoundNearestsPxBr
import Derived.Test.YtelfmddcjlocpaaGreatDoorKRoundNearestsPRfzx0
import Derived.Test.YtelfmddcjlocpaaGreatDoorKRoundNearestsPRfzx1
set_option linter.unusedVariables false
namespace Go.Proofs.YtelfmddcjlocpaaGreatDoor.PRfz
open Go Go.RowKit Go.Proofs.YtelfmddcjlocpaaGreatDoorW.PrintWords Go.Proofs.YtelfmddcjlocpaaGreatDoorW.PrintMore Go.Proofs.YtelfmddcjlocpaaGreatDoor.Px Go.Proofs.YtelfmddcjlocpaaGreatDoor.PRef
theorem gnomonref01_To.c {k : Nat} {l0 : List Int} {r : List Int} (h : gnomonref01_To.f k l0 = some r) : Con Tryz.prog Gw 162 [.s (.sl .u32 l0)] (· = .s (.sl .u64 r)) := by
 refine brg Tryz.func162 (by kernel_rfl) fun w S vs gw hS vs_ => ?_
 obtain ⟨A0, c0, u0, rfl, hc0, hr0, v0⟩ := a_sl vs_
 obtain rfl := a_nil v0
 exact (gnomonref01_To.calls k A0 c0 l0 r w hr0 hc0 h).mono fun e w' ⟨v0_, he, hR_v0_, hb⟩ => ⟨_, _, he, rfl, ofR hR_v0_ hS, hb⟩
end Go.Proofs.YtelfmddcjlocpaaGreatDoor.PRfz
