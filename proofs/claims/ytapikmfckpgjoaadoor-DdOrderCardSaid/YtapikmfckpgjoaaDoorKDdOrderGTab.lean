/- math/bits' table as the row's condition gives it; math/bits.TrailingZeros64 by it. Condition: the table is laid. -/
import Derived.Test.YtapikmfckpgjoaaDoorKDdOrderGBase
import Derived.Shelf.Spec.TrailingZeros
import Derived.Lib.LaidTab
namespace Go.Proofs.YtapikmfckpgjoaaDoor.GTab
open Go.RowKit
structure Tab (w : World) : Prop where mk :: (at' : ∀ j, j < 64 → w.cell? ⟨1, j, none⟩ = some (.int .u8 ((Lib.deBruijn64tab.getD j 0 : Nat) : Int)))
theorem Tab.next {w w' : World} (h : Tab w) (d : Below w.heap.size w w') : Tab w' := by
 have h0 : 1 < w.heap.size := World.block_lt_of_cell? _ _ (h.at' 0 (by decide))
 exact ⟨fun j hj => by rw [d.cell (p := ⟨1, j, none⟩) h0]; exact h.at' j hj⟩
set_option maxRecDepth 100000 in
theorem tz_core (x k idx : Nat) (w : World) (hx0 : ((x : Int) == 0) = false)
  (key : IntKind.u64.wrap (bits BinOp.and IntKind.u64 (x : Int) (IntKind.u64.wrap (-(x : Int))) * 285870213051353865) / 288230376151711744 = (idx : Int))
  (hi : idx < 64) (hk : k < 64) (hcell : w.cell? ⟨1, idx, none⟩ = some (.int .u8 k)) :
  Calls Tryd.prog 110 #[.int .u64 x] w fun e w' => e = .returned (.int .i64 k) ∧ w' = w := by
 go_enter Tryd.func110, Tryd.ntmps110
 go_wp2_with (simp only [key])
 go_ret
 exact ⟨rfl, rfl⟩
theorem tz_any (x : Nat) (hx : x < 18446744073709551616) (hx0 : x ≠ 0) (w : World) (hT : Tab w) :
  Calls Tryd.prog 110 #[.int .u64 x] w fun e w' => e = .returned (.int .i64 ((Lib.ctz 64 x : Nat) : Int)) ∧ w' = w := by
 obtain ⟨hlow, hk⟩ := Lib.lowest_bit 64 x hx0 hx
 obtain ⟨hi, htab⟩ := Lib.deBruijn64_at _ hk
 have hc := hT.at' _ hi
 rw [htab] at hc
 have key := tz64_key x _ hx hx0 hlow
 exact tz_core x _ _ w (by simpa using hx0) key hi hk hc
end Go.Proofs.YtapikmfckpgjoaaDoor.GTab
