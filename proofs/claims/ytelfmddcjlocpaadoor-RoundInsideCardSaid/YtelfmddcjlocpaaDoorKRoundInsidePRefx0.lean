/- The given functions' contracts (Given) as contracts of Px. Condition: as there.  -/
import Derived.Test.YtelfmddcjlocpaaDoorKRoundInsidePxBr
import Derived.Test.YtelfmddcjlocpaaDoorKRoundInsideGiven
import Derived.Test.YtelfmddcjlocpaaDoorProg
import Derived.Below
import Derived.Deep.Draws
import Derived.Deep.AppendLies
import Derived.Maps.AppendAt
import Derived.OwnWalk
import Derived.Laws.BytesArg
import Derived.Laws.MakeOwn
import Derived.Laws.OwnMore
import Derived.Deep.OwnRows
import Derived.Tactics
import Derived.Lib.ConvBytes
import Derived.Laws.Slices
import Derived.WalkKit
import Derived.KernelRfl
import Derived.RowKit3
import Derived.Deep.LoopGhost
import Derived.Deep.QuietTactic
import Derived.BigQuiet
import Derived.WideLaws
import Derived.Deep.DeepCutAuto
import Derived.Deep.CutBlock
import Derived.Deep.RegionHeld3
import Derived.Laws.Rows
import Derived.Lib.AppendStr
import Derived.ArgAppend
import Derived.Laws.IdiomCopy
import Derived.OrdersHeld
import Derived.Laws.BitsLemmas
import Derived.RowKit
import Derived.Test.YtelfmddcjlocpaaDoorKRoundInsideWWords
import Derived.Test.YtelfmddcjlocpaaDoorKRoundInsideWLast
import Derived.Test.YtelfmddcjlocpaaDoorKRoundInsideWTab
import Derived.Test.YtelfmddcjlocpaaDoorKRoundInsideWN
import Derived.Laws.StructEq
import Derived.Test.YtelfmddcjlocpaaDoorKRoundInsideWGuard
import Derived.Test.YtelfmddcjlocpaaDoorKRoundInsideBl
import Derived.Test.YtelfmddcjlocpaaDoorKRoundInsideWMine
section
set_option linter.unusedVariables false
namespace Go.Proofs.YtelfmddcjlocpaaDoor.Given
open Go Go.RowKit Go.Proofs.YtelfmddcjlocpaaDoorW.PrintWords Go.Proofs.YtelfmddcjlocpaaDoorW.PrintMore Go.Proofs.YtelfmddcjlocpaaDoor.Px
theorem nat_Bits.c {l0 : List Int} {r : Int} (h : nat_Bits.f l0 = some r) : Con Tryd.prog Gw 71 [.s (.sl .u64 l0)] (· = .s (.i .i64 r)) := by
 refine brg Tryd.func71 (by kernel_rfl) fun w S vs gw hS vs_ => ?_
 obtain ⟨A0, c0, u0, rfl, hc0, hr0, v0⟩ := a_sl vs_
 obtain rfl := a_nil v0
 exact (nat_Bits.calls A0 c0 l0 r w hr0 hc0 h).mono fun e w' ⟨he, hb⟩ => ⟨_, _, he, rfl, rfl, hb⟩
theorem nat_Trail.c {l0 : List Int} {r : Int} (h : nat_Trail.f l0 = some r) : Con Tryd.prog Gw 93 [.s (.sl .u64 l0)] (· = .s (.i .i64 r)) := by
 refine brg Tryd.func93 (by kernel_rfl) fun w S vs gw hS vs_ => ?_
 obtain ⟨A0, c0, u0, rfl, hc0, hr0, v0⟩ := a_sl vs_
 obtain rfl := a_nil v0
 exact (nat_Trail.calls A0 c0 l0 r w hr0 hc0 gw h).mono fun e w' ⟨he, hb⟩ => ⟨_, _, he, rfl, rfl, hb⟩
theorem nat_Cmp.c {l0 : List Int} {l1 : List Int} {r : Int} (h : nat_Cmp.f l0 l1 = some r) : Con Tryd.prog Gw 91 [.s (.sl .u64 l0), .s (.sl .u64 l1)] (· = .s (.i .i64 r)) := by
 refine brg Tryd.func91 (by kernel_rfl) fun w S vs gw hS vs_ => ?_
 obtain ⟨A0, c0, u0, rfl, hc0, hr0, v0⟩ := a_sl vs_
 obtain ⟨A1, c1, u1, rfl, hc1, hr1, v1⟩ := a_sl v0
 obtain rfl := a_nil v1
 exact (nat_Cmp.calls A0 c0 l0 A1 c1 l1 r w hr0 hc0 hr1 hc1 h).mono fun e w' ⟨he, hb⟩ => ⟨_, _, he, rfl, rfl, hb⟩
theorem nat_Shl.c {l0 : List Int} {a1 : Int} {r : List Int × Int} (h : nat_Shl.f l0 a1 = some r) : Con Tryd.prog Gw 88 [.s (.sl .u64 l0), .s (.i .i64 a1)] (· = .tu [.s (.sl .u64 r.1), .s (.i .i64 r.2)]) := by
 refine brg Tryd.func88 (by kernel_rfl) fun w S vs gw hS vs_ => ?_
 obtain ⟨A0, c0, u0, rfl, hc0, hr0, v0⟩ := a_sl vs_
 obtain ⟨u1, rfl, v1⟩ := a_i v0
 obtain rfl := a_nil v1
 exact (nat_Shl.calls A0 c0 l0 a1 r.1 r.2 w hr0 hc0 h).mono fun e w' ⟨v0_, he, hR_v0_, hb⟩ => ⟨_, _, he, rfl, ⟨[v0_, .int .i64 r.2], rfl, (.cons (ofR hR_v0_ hS) (.cons rfl .nil))⟩, hb⟩
theorem nat_Shr.c {l0 : List Int} {a1 : Int} {r : List Int × Int} (h : nat_Shr.f l0 a1 = some r) : Con Tryd.prog Gw 94 [.s (.sl .u64 l0), .s (.i .i64 a1)] (· = .tu [.s (.sl .u64 r.1), .s (.i .i64 r.2)]) := by
 refine brg Tryd.func94 (by kernel_rfl) fun w S vs gw hS vs_ => ?_
 obtain ⟨A0, c0, u0, rfl, hc0, hr0, v0⟩ := a_sl vs_
 obtain ⟨u1, rfl, v1⟩ := a_i v0
 obtain rfl := a_nil v1
 exact (nat_Shr.calls A0 c0 l0 a1 r.1 r.2 w hr0 hc0 h).mono fun e w' ⟨v0_, he, hR_v0_, hb⟩ => ⟨_, _, he, rfl, ⟨[v0_, .int .i64 r.2], rfl, (.cons (ofR hR_v0_ hS) (.cons rfl .nil))⟩, hb⟩
theorem nat_Add.c {l0 : List Int} {l1 : List Int} {r : List Int × Int} (h : nat_Add.f l0 l1 = some r) : Con Tryd.prog Gw 90 [.s (.sl .u64 l0), .s (.sl .u64 l1)] (· = .tu [.s (.sl .u64 r.1), .s (.i .i64 r.2)]) := by
 refine brg Tryd.func90 (by kernel_rfl) fun w S vs gw hS vs_ => ?_
 obtain ⟨A0, c0, u0, rfl, hc0, hr0, v0⟩ := a_sl vs_
 obtain ⟨A1, c1, u1, rfl, hc1, hr1, v1⟩ := a_sl v0
 obtain rfl := a_nil v1
 exact (nat_Add.calls A0 c0 l0 A1 c1 l1 r.1 r.2 w hr0 hc0 hr1 hc1 h).mono fun e w' ⟨v0_, he, hR_v0_, hb⟩ => ⟨_, _, he, rfl, ⟨[v0_, .int .i64 r.2], rfl, (.cons (ofR hR_v0_ hS) (.cons rfl .nil))⟩, hb⟩
theorem slices_Clone_uint64_uint64.c {l0 : List Int} {r : List Int} (h : slices_Clone_uint64_uint64.f l0 = some r) : Con Tryd.prog Gw 87 [.s (.sl .u64 l0)] (· = .s (.sl .u64 r)) := by
 refine brg Tryd.func87 (by kernel_rfl) fun w S vs gw hS vs_ => ?_
 obtain ⟨A0, c0, u0, rfl, hc0, hr0, v0⟩ := a_sl vs_
 obtain rfl := a_nil v0
 exact (slices_Clone_uint64_uint64.calls A0 c0 l0 r w hr0 hc0 h).mono fun e w' ⟨v0_, he, hR_v0_, hb⟩ => ⟨_, _, he, rfl, ofR hR_v0_ hS, hb⟩
end Go.Proofs.YtelfmddcjlocpaaDoor.Given
end
section
namespace Go.Proofs.YtelfmddcjlocpaaDoor.PRef
open Go.RowKit Go.Proofs.YtelfmddcjlocpaaDoorW.PrintWords Go.Proofs.YtelfmddcjlocpaaDoorW.PrintLast Go.Proofs.YtelfmddcjlocpaaDoorW.PrintMore Go.Proofs.YtelfmddcjlocpaaDoor.Given Go.Proofs.YtelfmddcjlocpaaDoor.GTab
attribute [local go_sem] max2_int min2_int max_two min_two max_three min_three max_four min_four   -- for this text's walks alone
set_option linter.unusedVariables false
set_option linter.unusedSimpArgs false
def errW : Option Int → Value
 | none => .nilIface
 | some c => .iface 0 (.int .i64 c)
theorem errW_none : errW none = .nilIface := rfl
theorem errW_some (c : Int) : errW (some c) = .iface 0 (.int .i64 c) := rfl
theorem info31 : (Tryd.prog.info? 31).map (fun i => (i.zero, i.size, i.bytes)) = some (some (.int .u64 0), 1, 8) := by kernel_rfl
theorem info152 : (Tryd.prog.info? 152).map (fun i => (i.zero, i.size, i.bytes)) = some (some (.int .u32 0), 1, 4) := by kernel_rfl
end Go.Proofs.YtelfmddcjlocpaaDoor.PRef
end
