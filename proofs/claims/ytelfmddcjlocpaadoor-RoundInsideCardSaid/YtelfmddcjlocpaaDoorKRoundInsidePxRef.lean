/- Printed functions' contracts as contracts of Px. Condition: math/bits' table is laid. -/
import Derived.Test.YtelfmddcjlocpaaDoorKRoundInsidePxBr
import Derived.Test.YtelfmddcjlocpaaDoorKRoundInsidePRefx0
import Derived.Test.YtelfmddcjlocpaaDoorKRoundInsidePRefx1
import Derived.Test.YtelfmddcjlocpaaDoorKRoundInsidePRefx2
import Derived.Test.YtelfmddcjlocpaaDoorKRoundInsidePRefx3
set_option linter.unusedVariables false
namespace Go.Proofs.YtelfmddcjlocpaaDoor.PRef
open Go Go.RowKit Go.Proofs.YtelfmddcjlocpaaDoorW.PrintWords Go.Proofs.YtelfmddcjlocpaaDoorW.PrintMore Go.Proofs.YtelfmddcjlocpaaDoor.Px
theorem gnomonref01_Zeros.c {k : Nat} {l0 : List Int} {r : Int} (h : gnomonref01_Zeros.f k l0 = some r) : Con Tryd.prog Gw 96 [.s (.sl .u32 l0)] (· = .s (.i .i64 r)) := by
 refine brg Tryd.func96 (by kernel_rfl) fun w S vs gw hS vs_ => ?_
 obtain ⟨A0, c0, u0, rfl, hc0, hr0, v0⟩ := a_sl vs_
 obtain rfl := a_nil v0
 exact (gnomonref01_Zeros.calls k A0 c0 l0 r w hr0 hc0 h).mono fun e w' ⟨he, hb⟩ => ⟨_, _, he, rfl, rfl, hb.below⟩
theorem gnomonref01_Norm.c {k : Nat} {l0 : List Int} {r : List Int} (h : gnomonref01_Norm.f k l0 = some r) : Con Tryd.prog Gw 117 [.s (.sl .u32 l0)] (· = .s (.sl .u32 r)) := by
 refine brg Tryd.func117 (by kernel_rfl) fun w S vs gw hS vs_ => ?_
 obtain ⟨A0, c0, u0, rfl, hc0, hr0, v0⟩ := a_sl vs_
 obtain rfl := a_nil v0
 exact (gnomonref01_Norm.calls k A0 c0 l0 r w hr0 hc0 h).mono fun e w' ⟨v0_, he, hR_v0_, hb⟩ => ⟨_, _, he, rfl, ofR hR_v0_ hS, hb⟩
theorem gnomonref01_Word.c {k : Nat} {a0 : Int} {r : List Int} (h : gnomonref01_Word.f k a0 = some r) : Con Tryd.prog Gw 102 [.s (.i .u64 a0)] (· = .s (.sl .u32 r)) := by
 refine brg Tryd.func102 (by kernel_rfl) fun w S vs gw hS vs_ => ?_
 obtain ⟨u0, rfl, v0⟩ := a_i vs_
 obtain rfl := a_nil v0
 exact (gnomonref01_Word.calls k a0 r w h).mono fun e w' ⟨v0_, he, hR_v0_, hb⟩ => ⟨_, _, he, rfl, ofR hR_v0_ hS, hb⟩
theorem gnomonref01_Shr.c {k : Nat} {l0 : List Int} {a1 : Int} {r : List Int} (h : gnomonref01_Shr.f k l0 a1 = some r) : Con Tryd.prog Gw 97 [.s (.sl .u32 l0), .s (.i .i64 a1)] (· = .s (.sl .u32 r)) := by
 refine brg Tryd.func97 (by kernel_rfl) fun w S vs gw hS vs_ => ?_
 obtain ⟨A0, c0, u0, rfl, hc0, hr0, v0⟩ := a_sl vs_
 obtain ⟨u1, rfl, v1⟩ := a_i v0
 obtain rfl := a_nil v1
 exact (gnomonref01_Shr.calls k A0 c0 l0 a1 r w hr0 hc0 h).mono fun e w' ⟨v0_, he, hR_v0_, hb⟩ => ⟨_, _, he, rfl, ofR hR_v0_ hS, hb⟩
theorem gnomonref01_To.c {k : Nat} {l0 : List Int} {r : List Int} (h : gnomonref01_To.f k l0 = some r) : Con Tryd.prog Gw 119 [.s (.sl .u32 l0)] (· = .s (.sl .u64 r)) := by
 refine brg Tryd.func119 (by kernel_rfl) fun w S vs gw hS vs_ => ?_
 obtain ⟨A0, c0, u0, rfl, hc0, hr0, v0⟩ := a_sl vs_
 obtain rfl := a_nil v0
 exact (gnomonref01_To.calls k A0 c0 l0 r w hr0 hc0 h).mono fun e w' ⟨v0_, he, hR_v0_, hb⟩ => ⟨_, _, he, rfl, ofR hR_v0_ hS, hb⟩
theorem gnomonref01_From.c {k : Nat} {l0 : List Int} {r : List Int} (h : gnomonref01_From.f k l0 = some r) : Con Tryd.prog Gw 100 [.s (.sl .u64 l0)] (· = .s (.sl .u32 r)) := by
 refine brg Tryd.func100 (by kernel_rfl) fun w S vs gw hS vs_ => ?_
 obtain ⟨A0, c0, u0, rfl, hc0, hr0, v0⟩ := a_sl vs_
 obtain rfl := a_nil v0
 exact (gnomonref01_From.calls k A0 c0 l0 r w hr0 hc0 h).mono fun e w' ⟨v0_, he, hR_v0_, hb⟩ => ⟨_, _, he, rfl, ofR hR_v0_ hS, hb⟩
theorem gnomonref01_Add.c {k : Nat} {l0 : List Int} {l1 : List Int} {r : List Int} (h : gnomonref01_Add.f k l0 l1 = some r) : Con Tryd.prog Gw 101 [.s (.sl .u32 l0), .s (.sl .u32 l1)] (· = .s (.sl .u32 r)) := by
 refine brg Tryd.func101 (by kernel_rfl) fun w S vs gw hS vs_ => ?_
 obtain ⟨A0, c0, u0, rfl, hc0, hr0, v0⟩ := a_sl vs_
 obtain ⟨A1, c1, u1, rfl, hc1, hr1, v1⟩ := a_sl v0
 obtain rfl := a_nil v1
 exact (gnomonref01_Add.calls k A0 c0 l0 A1 c1 l1 r w hr0 hc0 hr1 hc1 h).mono fun e w' ⟨v0_, he, hR_v0_, hb⟩ => ⟨_, _, he, rfl, ofR hR_v0_ hS, hb⟩
end Go.Proofs.YtelfmddcjlocpaaDoor.PRef
