/- Printed functions' contracts as contracts of Px. Condition: math/bits' table is laid. gnomonref01.Twin answers the same list, in a row of its own. Condition: its length is at most 2^45. -/
import Derived.Test.YtelfmddcjlocpaaGreatDoorKRoundQuotientsRnRow
import Derived.Test.YtelfmddcjlocpaaGreatDoorKRoundQuotientsPRefx0
import Derived.Test.YtelfmddcjlocpaaGreatDoorKRoundQuotientsPRefx1
import Derived.Test.YtelfmddcjlocpaaGreatDoorKRoundQuotientsPRefx2
import Derived.Test.YtelfmddcjlocpaaGreatDoorKRoundQuotientsPRefx3
import Derived.Test.YtelfmddcjlocpaaGreatDoorKRoundQuotientsPRefx4
import Derived.Test.YtelfmddcjlocpaaGreatDoorKRoundQuotientsPxA
import Derived.Laws.CopyOwn
import Derived.Laws.MakeOwn
section
set_option linter.unusedVariables false
namespace Go.Proofs.YtelfmddcjlocpaaGreatDoor.PRef
open Go Go.RowKit Go.Proofs.YtelfmddcjlocpaaGreatDoorW.PrintWords Go.Proofs.YtelfmddcjlocpaaGreatDoorW.PrintMore Go.Proofs.YtelfmddcjlocpaaGreatDoor.Px
theorem gnomonref01_Norm.c {k : Nat} {l0 : List Int} {r : List Int} (h : gnomonref01_Norm.f k l0 = some r) : Con Tryz.prog Gw 160 [.s (.sl .u32 l0)] (· = .s (.sl .u32 r)) := by
 refine brg Tryz.func160 (by kernel_rfl) fun w S vs gw hS vs_ => ?_
 obtain ⟨A0, c0, u0, rfl, hc0, hr0, v0⟩ := a_sl vs_
 obtain rfl := a_nil v0
 exact (gnomonref01_Norm.calls k A0 c0 l0 r w hr0 hc0 h).mono fun e w' ⟨v0_, he, hR_v0_, hb⟩ => ⟨_, _, he, rfl, ofR hR_v0_ hS, hb⟩
theorem gnomonref01_Word.c {k : Nat} {a0 : Int} {r : List Int} (h : gnomonref01_Word.f k a0 = some r) : Con Tryz.prog Gw 134 [.s (.i .u64 a0)] (· = .s (.sl .u32 r)) := by
 refine brg Tryz.func134 (by kernel_rfl) fun w S vs gw hS vs_ => ?_
 obtain ⟨u0, rfl, v0⟩ := a_i vs_
 obtain rfl := a_nil v0
 exact (gnomonref01_Word.calls k a0 r w h).mono fun e w' ⟨v0_, he, hR_v0_, hb⟩ => ⟨_, _, he, rfl, ofR hR_v0_ hS, hb⟩
theorem gnomonref01_Shl.c {k : Nat} {l0 : List Int} {a1 : Int} {r : List Int} (h : gnomonref01_Shl.f k l0 a1 = some r) : Con Tryz.prog Gw 169 [.s (.sl .u32 l0), .s (.i .i64 a1)] (· = .s (.sl .u32 r)) := by
 refine brg Tryz.func169 (by kernel_rfl) fun w S vs gw hS vs_ => ?_
 obtain ⟨A0, c0, u0, rfl, hc0, hr0, v0⟩ := a_sl vs_
 obtain ⟨u1, rfl, v1⟩ := a_i v0
 obtain rfl := a_nil v1
 exact (gnomonref01_Shl.calls k A0 c0 l0 a1 r w hr0 hc0 h).mono fun e w' ⟨v0_, he, hR_v0_, hb⟩ => ⟨_, _, he, rfl, ofR hR_v0_ hS, hb⟩
theorem gnomonref01_Bits.c {k : Nat} {l0 : List Int} {r : Int} (h : gnomonref01_Bits.f k l0 = some r) : Con Tryz.prog Gw 184 [.s (.sl .u32 l0)] (· = .s (.i .i64 r)) := by
 refine brg Tryz.func184 (by kernel_rfl) fun w S vs gw hS vs_ => ?_
 obtain ⟨A0, c0, u0, rfl, hc0, hr0, v0⟩ := a_sl vs_
 obtain rfl := a_nil v0
 exact (gnomonref01_Bits.calls k A0 c0 l0 r w hr0 hc0 h).mono fun e w' ⟨he, hb⟩ => ⟨_, _, he, rfl, rfl, hb.below⟩
theorem gnomonref01_Shr.c {k : Nat} {l0 : List Int} {a1 : Int} {r : List Int} (h : gnomonref01_Shr.f k l0 a1 = some r) : Con Tryz.prog Gw 129 [.s (.sl .u32 l0), .s (.i .i64 a1)] (· = .s (.sl .u32 r)) := by
 refine brg Tryz.func129 (by kernel_rfl) fun w S vs gw hS vs_ => ?_
 obtain ⟨A0, c0, u0, rfl, hc0, hr0, v0⟩ := a_sl vs_
 obtain ⟨u1, rfl, v1⟩ := a_i v0
 obtain rfl := a_nil v1
 exact (gnomonref01_Shr.calls k A0 c0 l0 a1 r w hr0 hc0 h).mono fun e w' ⟨v0_, he, hR_v0_, hb⟩ => ⟨_, _, he, rfl, ofR hR_v0_ hS, hb⟩
theorem gnomonref01_Add.c {k : Nat} {l0 : List Int} {l1 : List Int} {r : List Int} (h : gnomonref01_Add.f k l0 l1 = some r) : Con Tryz.prog Gw 133 [.s (.sl .u32 l0), .s (.sl .u32 l1)] (· = .s (.sl .u32 r)) := by
 refine brg Tryz.func133 (by kernel_rfl) fun w S vs gw hS vs_ => ?_
 obtain ⟨A0, c0, u0, rfl, hc0, hr0, v0⟩ := a_sl vs_
 obtain ⟨A1, c1, u1, rfl, hc1, hr1, v1⟩ := a_sl v0
 obtain rfl := a_nil v1
 exact (gnomonref01_Add.calls k A0 c0 l0 A1 c1 l1 r w hr0 hc0 hr1 hc1 h).mono fun e w' ⟨v0_, he, hR_v0_, hb⟩ => ⟨_, _, he, rfl, ofR hR_v0_ hS, hb⟩
theorem gnomonref01_Cmp.c {k : Nat} {l0 : List Int} {l1 : List Int} {r : Int} (h : gnomonref01_Cmp.f k l0 l1 = some r) : Con Tryz.prog Gw 167 [.s (.sl .u32 l0), .s (.sl .u32 l1)] (· = .s (.i .i64 r)) := by
 refine brg Tryz.func167 (by kernel_rfl) fun w S vs gw hS vs_ => ?_
 obtain ⟨A0, c0, u0, rfl, hc0, hr0, v0⟩ := a_sl vs_
 obtain ⟨A1, c1, u1, rfl, hc1, hr1, v1⟩ := a_sl v0
 obtain rfl := a_nil v1
 exact (gnomonref01_Cmp.calls k A0 c0 l0 A1 c1 l1 r w hr0 hc0 hr1 hc1 h).mono fun e w' ⟨he, hb⟩ => ⟨_, _, he, rfl, rfl, hb.below⟩
theorem gnomonref01_Sub.c {k : Nat} {l0 : List Int} {l1 : List Int} {r : List Int} (h : gnomonref01_Sub.f k l0 l1 = some r) : Con Tryz.prog Gw 168 [.s (.sl .u32 l0), .s (.sl .u32 l1)] (· = .s (.sl .u32 r)) := by
 refine brg Tryz.func168 (by kernel_rfl) fun w S vs gw hS vs_ => ?_
 obtain ⟨A0, c0, u0, rfl, hc0, hr0, v0⟩ := a_sl vs_
 obtain ⟨A1, c1, u1, rfl, hc1, hr1, v1⟩ := a_sl v0
 obtain rfl := a_nil v1
 exact (gnomonref01_Sub.calls k A0 c0 l0 A1 c1 l1 r w hr0 hc0 hr1 hc1 h).mono fun e w' ⟨v0_, he, hR_v0_, hb⟩ => ⟨_, _, he, rfl, ofR hR_v0_ hS, hb⟩
theorem gnomonref01_Mul.c {k : Nat} {l0 : List Int} {l1 : List Int} {r : List Int} (h : gnomonref01_Mul.f k l0 l1 = some r) : Con Tryz.prog Gw 181 [.s (.sl .u32 l0), .s (.sl .u32 l1)] (· = .s (.sl .u32 r)) := by
 refine brg Tryz.func181 (by kernel_rfl) fun w S vs gw hS vs_ => ?_
 obtain ⟨A0, c0, u0, rfl, hc0, hr0, v0⟩ := a_sl vs_
 obtain ⟨A1, c1, u1, rfl, hc1, hr1, v1⟩ := a_sl v0
 obtain rfl := a_nil v1
 exact (gnomonref01_Mul.calls k A0 c0 l0 A1 c1 l1 r w hr0 hc0 hr1 hc1 h).mono fun e w' ⟨v0_, he, hR_v0_, hb⟩ => ⟨_, _, he, rfl, ofR hR_v0_ hS, hb⟩
theorem gnomonref01_From.c {k : Nat} {l0 : List Int} {r : List Int} (h : gnomonref01_From.f k l0 = some r) : Con Tryz.prog Gw 132 [.s (.sl .u64 l0)] (· = .s (.sl .u32 r)) := by
 refine brg Tryz.func132 (by kernel_rfl) fun w S vs gw hS vs_ => ?_
 obtain ⟨A0, c0, u0, rfl, hc0, hr0, v0⟩ := a_sl vs_
 obtain rfl := a_nil v0
 exact (gnomonref01_From.calls k A0 c0 l0 r w hr0 hc0 h).mono fun e w' ⟨v0_, he, hR_v0_, hb⟩ => ⟨_, _, he, rfl, ofR hR_v0_ hS, hb⟩
end Go.Proofs.YtelfmddcjlocpaaGreatDoor.PRef
end
section
set_option linter.unusedVariables false
namespace Go.Proofs.YtelfmddcjlocpaaGreatDoor.Twin
open Go Go.RowKit Go.Proofs.YtelfmddcjlocpaaGreatDoorW.PrintWords Go.Proofs.YtelfmddcjlocpaaGreatDoorW.PrintMore Go.Proofs.YtelfmddcjlocpaaGreatDoor.GBase Go.Proofs.YtelfmddcjlocpaaGreatDoor.Px
def zeroRow (n : Nat) : Array Value := madeCells (Value.int .u64 0).cells n
theorem make_zero (n : Nat) (hn : n ≤ 35184372088832) (w : World) : Sem.run Tryz.prog (Instr.makeSlice 22 (Value.int IntKind.i64 (n : Int)) (Value.int IntKind.i64 (n : Int))) w = .ok (.slice (some ⟨w.heap.size, 0, none⟩) n n) (w.alloc (Obj.cells (zeroRow n) 29)) := by
 obtain ⟨i, hi, hz, hs, hb⟩ := info_parts u64_info
 have h := run_make (P := Tryz.prog) w 22 29 i (.int .u64 0) (by kernel_rfl) hi hz .i64 .i64 (n : Int) (n : Int) (by omega) (Int.le_refl _) (by rw [hb]; omega) (by omega)
 rw [Int.toNat_natCast, hs, Nat.mul_one] at h
 exact h
theorem zeroRow_size (n : Nat) : (zeroRow n).size = n := by simp [zeroRow, madeCells]
theorem copy_run (w : World) (b o n c : Nat) (l : List Int) (hn : l.length = n) (hb : b < w.heap.size) (hc : ∀ (j : Nat) (d : Int), l[j]? = some d → w.cell? ⟨b, o + j, none⟩ = some (.int .u64 d)) :
  Sem.run Tryz.prog (Builtin.copy_ #[22, 22] 3 #[.slice (some ⟨w.heap.size, 0, none⟩) n n, .slice (some ⟨b, o, none⟩) n c]) (w.alloc (Obj.cells (zeroRow n) 29)) =
   .ok (goInt n) ((w.alloc (Obj.cells (zeroRow n) 29)).setRow w.heap.size (l.map (Value.int .u64)).toArray) := by
 have lc : (l.map (Value.int .u64)).length = n := by rw [List.length_map, hn]
 have h := run_copy_row (P := Tryz.prog) (w.alloc (Obj.cells (zeroRow n) 29)) 22 22 3 29 w.heap.size 0 n n ⟨b, o, none⟩ n c (zeroRow n) 29 (l.map (Value.int .u64))
  Tryz.underlying22 (by kernel_rfl) (blk_new w _) (by rw [lc]; exact (Nat.min_self n).symm)
  (fun j v hv => by
   rw [List.getElem?_map] at hv
   obtain ⟨d, hd, rfl⟩ := Option.map_eq_some_iff.1 hv
   have e : (⟨b, o, none⟩ : Addr).add j = ⟨b, o + j, none⟩ := by unfold Addr.add; split <;> simp_all
   rw [e, (box w (Obj.cells (zeroRow n) 29)).cell (p := ⟨b, o + j, none⟩) hb]
   exact hc j d hd)
  (by rw [lc, zeroRow_size]; omega)
  (fun v hv => by obtain ⟨d, _, rfl⟩ := List.mem_map.1 hv; rfl)
 rw [lc] at h
 have e : (zeroRow n).toList.take 0 ++ l.map (Value.int .u64) ++ (zeroRow n).toList.drop (0 + n) = l.map (Value.int .u64) := by
  rw [List.take_zero, List.nil_append, List.drop_eq_nil_of_le (by rw [Array.length_toList, zeroRow_size]; omega), List.append_nil]
 rw [e] at h
 exact h
theorem copy_none (w : World) (A : Option Addr) (c : Nat) : Sem.run Tryz.prog (Builtin.copy_ #[22, 22] 3 #[.slice (some ⟨w.heap.size, 0, none⟩) 0 0, .slice A 0 c]) (w.alloc (Obj.cells (zeroRow 0) 29)) = .ok (goInt 0) (w.alloc (Obj.cells (zeroRow 0) 29)) := by
 obtain ⟨i, hi, hz, hs, hb⟩ := info_parts u64_info
 cases A <;> simp [Builtin.copy_, run_underlying Tryz.underlying22, Builtin.lenOf, Builtin.firstCells, sizeOf, typeInfo, hi, storeCells, loadCells, loadCellsFrom]
set_option maxRecDepth 100000 in
theorem twin_walk (A : Option Addr) (c n : Nat) (l : List Int) (w : World) (S : Nat → Prop) (hS : ∀ b, S b → b < w.heap.size) (hn : l.length = n) (hl : n ≤ 35184372088832) (hs : SlR w S .u64 A l) :
  Calls Tryz.prog 154 #[.slice A n c] w fun e w' => ∃ v, e = .returned v ∧ RepV w' S none' (.s (.sl .u64 l)) v ∧ Below w.heap.size w w' := by
 rcases hs with rfl | ⟨b, o, rfl, ⟨_, h9⟩, hc⟩
 ·have n0 : n = 0 := hn.symm
  clear hn
  subst n0
  have HM := make_zero 0 (by decide) w
  rw [show (((0 : Nat) : Int)) = 0 from rfl] at HM
  have HC := copy_none w A c
  go_enter Tryz.func154, Tryz.ntmps154
  go_wp2_with fail
  go_ret
  exact ⟨_, rfl, ⟨_, _, rfl, Nat.le_refl _, .inl rfl⟩, box _ _⟩
 ·by_cases n0 : n = 0
  ·obtain rfl : l = [] := List.eq_nil_of_length_eq_zero (hn.trans n0)
   clear hc
   subst n0
   have HM := make_zero 0 (by decide) w
   rw [show (((0 : Nat) : Int)) = 0 from rfl] at HM
   have HC := copy_none w (some ⟨b, o, none⟩) c
   go_enter Tryz.func154, Tryz.ntmps154
   go_wp2_with fail
   go_ret
   exact ⟨_, rfl, ⟨_, _, rfl, Nat.le_refl _, .inl rfl⟩, box _ _⟩
  have hb : b < w.heap.size := by
   have e : l[0]? = some (l[0]'(by omega)) := List.getElem?_eq_getElem (by omega)
   exact World.block_lt_of_cell? _ _ (hc 0 _ e)
  have HM := make_zero n hl w
  have HC := copy_run w b o n c l hn hb hc
  have HR := Lib.hid (show ((w.alloc (Obj.cells (zeroRow n) 29)).setRow w.heap.size (l.map (Value.int .u64)).toArray).heap[w.heap.size]? = some (.cells (l.map (Value.int .u64)).toArray 29 (0, 0)) from setRow_heap _ _ _ _ _ _ (blk_new w _))
  have HB := Lib.hid (below_setRow (box w (Obj.cells (zeroRow n) 29)) (Nat.le_refl _) (l.map (Value.int .u64)).toArray)
  clear hc
  go_enter Tryz.func154, Tryz.ntmps154
  go_wp2_with fail
  go_ret
  refine ⟨_, rfl, ⟨some ⟨w.heap.size, 0, none⟩, n, by rw [hn]; rfl, by rw [hn]; exact Nat.le_refl _, .inr ⟨_, _, rfl, ⟨fun h => Nat.lt_irrefl _ (hS _ h), h9⟩, fun j d hj => ?_⟩⟩, HB.out⟩
  rw [Nat.zero_add]
  refine (blk_cell HR.out j).trans ?_
  simp [hj]
end Go.Proofs.YtelfmddcjlocpaaGreatDoor.Twin
namespace Go.Proofs.YtelfmddcjlocpaaGreatDoor.PLib
open Go Go.RowKit Go.Proofs.YtelfmddcjlocpaaGreatDoorW.PrintWords Go.Proofs.YtelfmddcjlocpaaGreatDoorW.PrintMore Go.Proofs.YtelfmddcjlocpaaGreatDoor.Px
def gnomonref01_Twin.f (l0 : List Int) : Option (List Int) := if l0.length ≤ 35184372088832 then some l0 else none
theorem gnomonref01_Twin.c {l0 : List Int} {r : List Int} (h : gnomonref01_Twin.f l0 = some r) : Con Tryz.prog Gw 154 [.s (.sl .u64 l0)] (· = .s (.sl .u64 r)) := by
 unfold gnomonref01_Twin.f at h
 by_cases hl : l0.length ≤ 35184372088832
 rotate_left
 ·rw [if_neg hl] at h; cases h
 rw [if_pos hl] at h
 obtain rfl := Option.some.inj h
 refine brg Tryz.func154 (by kernel_rfl) fun w S vs gw hS vs_ => ?_
 cases vs_ with
 | cons h1 h2 =>
  obtain rfl := a_nil h2
  obtain ⟨A, c, rfl, hc, hs⟩ := h1
  exact (Twin.twin_walk A c l0.length l0 w S hS rfl hl hs).mono fun e w' ⟨v, he, hr, hb⟩ => ⟨v, _, he, rfl, hr, hb⟩
end Go.Proofs.YtelfmddcjlocpaaGreatDoor.PLib
end
