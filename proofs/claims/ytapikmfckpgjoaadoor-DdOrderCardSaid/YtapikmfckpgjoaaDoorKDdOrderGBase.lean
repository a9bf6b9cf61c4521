/- What every walk over rows of limbs wants: blocks of the call's own, the element's type, math/bits.Len64. Condition: words below 2^64. -/
import Derived.Test.YtapikmfckpgjoaaDoorKDdOrderBl
import Derived.Test.YtapikmfckpgjoaaDoorKDdOrderPLenx1
import Derived.Test.YtapikmfckpgjoaaDoorKDdOrderWApart
import Derived.Test.YtapikmfckpgjoaaDoorKDdOrderWWords
import Derived.Laws.CopyOwn
import Derived.WalkLawsBesides
import Derived.Laws.Externs
import Derived.Laws.BitsAllLaws
import Derived.Deep.Draws
import Derived.Below
import Derived.Handy
import Derived.Deep.RegionHeld3
import Derived.Lib.Hide
import Derived.OwnWalk
import Derived.Laws.OwnMore
namespace Go.Proofs.YtapikmfckpgjoaaDoor.GBase
open Go.RowKit Go.Proofs.YtapikmfckpgjoaaDoorW.PrintWords Go.Proofs.YtapikmfckpgjoaaDoorW.PrintMore Go.Proofs.YtapikmfckpgjoaaDoor.Num Go.Proofs.YtapikmfckpgjoaaDoor.PLen Go.Proofs.YtapikmfckpgjoaaDoor.Ref
theorem box (w : World) (o : Obj) : Below w.heap.size w (w.alloc o) := (Below.refl _ _).alloc (Nat.le_refl _) _
theorem on {W w w' : World} (h : Below W.heap.size W w) (k : Below w.heap.size w w') : Below W.heap.size W w' := h.trans (k.mono h.size)
theorem u64_info : (Tryd.prog.info? 22).map (fun i => (i.zero, i.size, i.bytes)) = some (some (.int .u64 0), 1, 8) := by kernel_rfl
theorem eq_nil_1 (a : Addr) (n c : Nat) (w : World) : Sem.run Tryd.prog (binOp BinOp.eql 32 (Value.slice (some a) n c) (Value.slice none 0 0)) w = .ok (.bool false) w := by kernel_rfl
theorem tab8_at : ∀ j : Fin 256, bt tab8 (j.val : Int) = ((bl j.val : Nat) : Int) := by decide +kernel
theorem j1_ev (x a : Nat) (hx : x < 65536) (ha : a ≤ 48) : Ev (fun k => bits_Len64.j1 k (x : Int) (a : Int)) (((a + bl x : Nat) : Int)) := by
 have hb : bl x ≤ 16 := bl_le_of_lt (k := 16) hx
 by_cases c : 256 ≤ x
 ·have e1 : ((x : Int) / 256) % 256 = ((x / 256 : Nat) : Int) := by omega
  have ht := tab8_at ⟨x / 256, by omega⟩
  have hs := bl_shift x 8 (by show x / 256 ≠ 0; omega)
  have hs' : bl x = 8 + bl (x / 256) := hs
  refine Ev.step (f := fun _ => some (((a + bl x : Nat) : Int))) (fun k => ?_) (Ev.now _)
  rw [bits_Len64.j1, if_pos (by omega), e1, if_pos (by omega), if_pos (by omega)]
  have ht' : bt tab8 ((x / 256 : Nat) : Int) = ((bl (x / 256) : Nat) : Int) := ht
  rw [ht', hs', w64 (x := (a : Int) + 8) (by omega) (by omega), w64 (x := ((bl (x / 256) : Nat) : Int)) (by omega) (by omega), w64 (by omega) (by omega)]
  exact congrArg some (by omega)
 ·have e1 : (x : Int) % 256 = (x : Int) := by omega
  have ht : bt tab8 (x : Int) = ((bl x : Nat) : Int) := tab8_at ⟨x, by omega⟩
  refine Ev.step (f := fun _ => some (((a + bl x : Nat) : Int))) (fun k => ?_) (Ev.now _)
  rw [bits_Len64.j1, if_neg (by omega), e1, if_pos (by omega), if_pos (by omega), ht, w64 (x := ((bl x : Nat) : Int)) (by omega) (by omega), w64 (by omega) (by omega)]
  exact congrArg some (by omega)
theorem j0_ev (x a : Nat) (hx : x < 4294967296) (ha : a ≤ 32) : Ev (fun k => bits_Len64.j0 k (x : Int) (a : Int)) (((a + bl x : Nat) : Int)) := by
 by_cases c : 65536 ≤ x
 ·have hs : bl x = 16 + bl (x / 65536) := bl_shift x 16 (by show x / 65536 ≠ 0; omega)
  have h := j1_ev (x / 65536) (a + 16) (by omega) (by omega)
  refine Ev.step (f := fun k => bits_Len64.j1 k ((x / 65536 : Nat) : Int) ((a + 16 : Nat) : Int)) (fun k => ?_) ?_
  ·rw [bits_Len64.j0, if_pos (by omega), w64 (by omega) (by omega)]
   have e1 : (x : Int) / 65536 = ((x / 65536 : Nat) : Int) := by omega
   have e2 : (a : Int) + 16 = ((a + 16 : Nat) : Int) := by omega
   rw [e1, e2]
  ·rw [hs, show a + (16 + bl (x / 65536)) = a + 16 + bl (x / 65536) by omega]
   exact h
 ·refine Ev.step (f := fun k => bits_Len64.j1 k (x : Int) (a : Int)) (fun k => by rw [bits_Len64.j0, if_neg (by omega)]) (j1_ev x a (by omega) (by omega))
theorem len_ev (x : Nat) (hx : x < 18446744073709551616) : Ev (fun k => bits_Len64.f k (x : Int)) ((bl x : Nat) : Int) := by
 unfold bits_Len64.f
 by_cases c : 4294967296 ≤ x
 ·have hs : bl x = 32 + bl (x / 4294967296) := bl_shift x 32 (by show x / 4294967296 ≠ 0; omega)
  refine Ev.congr (fun k => if_pos (by omega)) ?_
  rw [hs]
  exact j0_ev (x / 4294967296) 32 (by omega) (by omega)
 ·refine Ev.congr (fun k => if_neg (by omega)) ?_
  have h := j0_ev x 0 (by omega) (by omega)
  rw [Nat.zero_add] at h
  exact h
end Go.Proofs.YtapikmfckpgjoaaDoor.GBase
