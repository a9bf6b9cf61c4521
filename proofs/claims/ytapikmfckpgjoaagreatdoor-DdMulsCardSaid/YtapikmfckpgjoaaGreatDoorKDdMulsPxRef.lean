/- Printed functions' contracts as contracts of Px. Condition: math/bits' table is laid. -/
import Derived.Test.YtapikmfckpgjoaaGreatDoorKDdMulsGA
import Derived.Test.YtapikmfckpgjoaaGreatDoorKDdMulsPRefx0
import Derived.Test.YtapikmfckpgjoaaGreatDoorKDdMulsPRefx1
import Derived.Test.YtapikmfckpgjoaaGreatDoorKDdMulsPRefx2
import Derived.Test.YtapikmfckpgjoaaGreatDoorKDdMulsPRefx3
set_option linter.unusedVariables false
namespace Go.Proofs.YtapikmfckpgjoaaGreatDoor.PRef
open Go Go.RowKit Go.Proofs.YtapikmfckpgjoaaGreatDoorW.PrintWords Go.Proofs.YtapikmfckpgjoaaGreatDoorW.PrintMore Go.Proofs.YtapikmfckpgjoaaGreatDoor.Px
theorem gnomonref01_Norm.c {k : Nat} {l0 : List Int} {r : List Int} (h : gnomonref01_Norm.f k l0 = some r) : Con Tryz.prog Gw 78 [.s (.sl .u32 l0)] (· = .s (.sl .u32 r)) := by
 refine brg Tryz.func78 (by kernel_rfl) fun w S vs gw hS vs_ => ?_
 obtain ⟨A0, c0, u0, rfl, hc0, hr0, v0⟩ := a_sl vs_
 obtain rfl := a_nil v0
 exact (gnomonref01_Norm.calls k A0 c0 l0 r w hr0 hc0 h).mono fun e w' ⟨v0_, he, hR_v0_, hb⟩ => ⟨_, _, he, rfl, ofR hR_v0_ hS, hb⟩
theorem gnomonref01_Word.c {k : Nat} {a0 : Int} {r : List Int} (h : gnomonref01_Word.f k a0 = some r) : Con Tryz.prog Gw 50 [.s (.i .u64 a0)] (· = .s (.sl .u32 r)) := by
 refine brg Tryz.func50 (by kernel_rfl) fun w S vs gw hS vs_ => ?_
 obtain ⟨u0, rfl, v0⟩ := a_i vs_
 obtain rfl := a_nil v0
 exact (gnomonref01_Word.calls k a0 r w h).mono fun e w' ⟨v0_, he, hR_v0_, hb⟩ => ⟨_, _, he, rfl, ofR hR_v0_ hS, hb⟩
theorem gnomonref01_Shl.c {k : Nat} {l0 : List Int} {a1 : Int} {r : List Int} (h : gnomonref01_Shl.f k l0 a1 = some r) : Con Tryz.prog Gw 77 [.s (.sl .u32 l0), .s (.i .i64 a1)] (· = .s (.sl .u32 r)) := by
 refine brg Tryz.func77 (by kernel_rfl) fun w S vs gw hS vs_ => ?_
 obtain ⟨A0, c0, u0, rfl, hc0, hr0, v0⟩ := a_sl vs_
 obtain ⟨u1, rfl, v1⟩ := a_i v0
 obtain rfl := a_nil v1
 exact (gnomonref01_Shl.calls k A0 c0 l0 a1 r w hr0 hc0 h).mono fun e w' ⟨v0_, he, hR_v0_, hb⟩ => ⟨_, _, he, rfl, ofR hR_v0_ hS, hb⟩
theorem gnomonref01_Bits.c {k : Nat} {l0 : List Int} {r : Int} (h : gnomonref01_Bits.f k l0 = some r) : Con Tryz.prog Gw 141 [.s (.sl .u32 l0)] (· = .s (.i .i64 r)) := by
 refine brg Tryz.func141 (by kernel_rfl) fun w S vs gw hS vs_ => ?_
 obtain ⟨A0, c0, u0, rfl, hc0, hr0, v0⟩ := a_sl vs_
 obtain rfl := a_nil v0
 exact (gnomonref01_Bits.calls k A0 c0 l0 r w hr0 hc0 h).mono fun e w' ⟨he, hb⟩ => ⟨_, _, he, rfl, rfl, hb.below⟩
theorem gnomonref01_Add.c {k : Nat} {l0 : List Int} {l1 : List Int} {r : List Int} (h : gnomonref01_Add.f k l0 l1 = some r) : Con Tryz.prog Gw 49 [.s (.sl .u32 l0), .s (.sl .u32 l1)] (· = .s (.sl .u32 r)) := by
 refine brg Tryz.func49 (by kernel_rfl) fun w S vs gw hS vs_ => ?_
 obtain ⟨A0, c0, u0, rfl, hc0, hr0, v0⟩ := a_sl vs_
 obtain ⟨A1, c1, u1, rfl, hc1, hr1, v1⟩ := a_sl v0
 obtain rfl := a_nil v1
 exact (gnomonref01_Add.calls k A0 c0 l0 A1 c1 l1 r w hr0 hc0 hr1 hc1 h).mono fun e w' ⟨v0_, he, hR_v0_, hb⟩ => ⟨_, _, he, rfl, ofR hR_v0_ hS, hb⟩
theorem gnomonref01_Cmp.c {k : Nat} {l0 : List Int} {l1 : List Int} {r : Int} (h : gnomonref01_Cmp.f k l0 l1 = some r) : Con Tryz.prog Gw 100 [.s (.sl .u32 l0), .s (.sl .u32 l1)] (· = .s (.i .i64 r)) := by
 refine brg Tryz.func100 (by kernel_rfl) fun w S vs gw hS vs_ => ?_
 obtain ⟨A0, c0, u0, rfl, hc0, hr0, v0⟩ := a_sl vs_
 obtain ⟨A1, c1, u1, rfl, hc1, hr1, v1⟩ := a_sl v0
 obtain rfl := a_nil v1
 exact (gnomonref01_Cmp.calls k A0 c0 l0 A1 c1 l1 r w hr0 hc0 hr1 hc1 h).mono fun e w' ⟨he, hb⟩ => ⟨_, _, he, rfl, rfl, hb.below⟩
theorem gnomonref01_Sub.c {k : Nat} {l0 : List Int} {l1 : List Int} {r : List Int} (h : gnomonref01_Sub.f k l0 l1 = some r) : Con Tryz.prog Gw 101 [.s (.sl .u32 l0), .s (.sl .u32 l1)] (· = .s (.sl .u32 r)) := by
 refine brg Tryz.func101 (by kernel_rfl) fun w S vs gw hS vs_ => ?_
 obtain ⟨A0, c0, u0, rfl, hc0, hr0, v0⟩ := a_sl vs_
 obtain ⟨A1, c1, u1, rfl, hc1, hr1, v1⟩ := a_sl v0
 obtain rfl := a_nil v1
 exact (gnomonref01_Sub.calls k A0 c0 l0 A1 c1 l1 r w hr0 hc0 hr1 hc1 h).mono fun e w' ⟨v0_, he, hR_v0_, hb⟩ => ⟨_, _, he, rfl, ofR hR_v0_ hS, hb⟩
theorem gnomonref01_Mul.c {k : Nat} {l0 : List Int} {l1 : List Int} {r : List Int} (h : gnomonref01_Mul.f k l0 l1 = some r) : Con Tryz.prog Gw 48 [.s (.sl .u32 l0), .s (.sl .u32 l1)] (· = .s (.sl .u32 r)) := by
 refine brg Tryz.func48 (by kernel_rfl) fun w S vs gw hS vs_ => ?_
 obtain ⟨A0, c0, u0, rfl, hc0, hr0, v0⟩ := a_sl vs_
 obtain ⟨A1, c1, u1, rfl, hc1, hr1, v1⟩ := a_sl v0
 obtain rfl := a_nil v1
 exact (gnomonref01_Mul.calls k A0 c0 l0 A1 c1 l1 r w hr0 hc0 hr1 hc1 h).mono fun e w' ⟨v0_, he, hR_v0_, hb⟩ => ⟨_, _, he, rfl, ofR hR_v0_ hS, hb⟩
theorem gnomonref01_Pow2.c {k : Nat} {a0 : Int} {r : List Int} (h : gnomonref01_Pow2.f k a0 = some r) : Con Tryz.prog Gw 51 [.s (.i .i64 a0)] (· = .s (.sl .u32 r)) := by
 refine brg Tryz.func51 (by kernel_rfl) fun w S vs gw hS vs_ => ?_
 obtain ⟨u0, rfl, v0⟩ := a_i vs_
 obtain rfl := a_nil v0
 exact (gnomonref01_Pow2.calls k a0 r w h).mono fun e w' ⟨v0_, he, hR_v0_, hb⟩ => ⟨_, _, he, rfl, ofR hR_v0_ hS, hb⟩
end Go.Proofs.YtapikmfckpgjoaaGreatDoor.PRef
