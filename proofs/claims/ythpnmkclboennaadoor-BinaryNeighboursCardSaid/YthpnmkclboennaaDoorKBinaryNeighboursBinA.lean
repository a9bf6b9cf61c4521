/- Contracts of a format's own functions: shapeOf, sign, hidden, inf, take, made, rank. Conditions: words below 2^64. -/
import Derived.Test.YthpnmkclboennaaDoorKBinaryNeighboursBinLaw
import Derived.Test.YthpnmkclboennaaDoorProg
import Derived.WalkLawsBesides
import Derived.Laws.Externs
import Derived.Deep.Draws
import Derived.Below
import Derived.Handy
import Derived.Deep.RegionHeld3
import Derived.Lib.Hide
namespace Go.Proofs.YthpnmkclboennaaDoor.BinA
open Go.RowKit Go.Proofs.YthpnmkclboennaaDoor.BinLaw
def shp0 : Value := .agg #[.int .i64 0, .int .i64 0, .int .i64 0, .int .u64 0]
theorem box (w : World) (o : Obj) : Below w.heap.size w (w.alloc o) := (Below.refl _ _).alloc (Nat.le_refl _) _
theorem on {W w w' : World} (h : Below W.heap.size W w) (k : Below w.heap.size w w') : Below W.heap.size W w' := h.trans (k.mono h.size)
theorem shapeOf_no (f : Int) (h : f ≠ 32) (h' : f ≠ 64) (w : World) : Calls Tryd.prog 48 #[.int .i64 f] w fun e w' => e = .returned shp0 ∧ Below w.heap.size w w' := by
  have e1 : ((f : Int) == 32) = false := by simpa using h
  have e2 : ((f : Int) == 64) = false := by simpa using h'
  go_enter Tryd.func48, Tryd.ntmps48
  go_wp2_with fail
  go_returns
  exact ⟨rfl, box _ _⟩
theorem shapeOf_S (w : World) : Calls Tryd.prog 48 #[.int .i64 32] w fun e w' => e = .returned (.agg #[.int .i64 32, .int .i64 24, .int .i64 (-149), .int .u64 2143289345]) ∧ Below w.heap.size w w' := by
  go_enter Tryd.func48, Tryd.ntmps48
  go_wp2_with fail
  go_returns
  exact ⟨rfl, box _ _⟩
theorem sign_S (w : World) : Calls Tryd.prog 81 #[.agg #[.int .i64 32, .int .i64 24, .int .i64 (-149), .int .u64 2143289345]] w fun e w' => e = .returned (.int .u64 2147483648) ∧ Below w.heap.size w w' := by
  go_enter Tryd.func81, Tryd.ntmps81
  go_wp2_with fail
  go_ret
  exact ⟨rfl, box _ _⟩
theorem hidden_S (w : World) : Calls Tryd.prog 55 #[.agg #[.int .i64 32, .int .i64 24, .int .i64 (-149), .int .u64 2143289345]] w fun e w' => e = .returned (.int .u64 8388608) ∧ Below w.heap.size w w' := by
  go_enter Tryd.func55, Tryd.ntmps55
  go_wp2_with fail
  go_ret
  exact ⟨rfl, box _ _⟩
structure SBS (W w : World) (g : Nat) : Prop where mk :: (below : Below W.heap.size W w) (lt : g < w.heap.size) (cells : w.cell? ⟨g, 0, none⟩ = some (.int .i64 32) ∧ w.cell? ⟨g, 1, none⟩ = some (.int .i64 24) ∧ w.cell? ⟨g, 2, none⟩ = some (.int .i64 (-149)) ∧ w.cell? ⟨g, 3, none⟩ = some (.int .u64 2143289345))
theorem SBS.next {W w w' : World} {g : Nat} (h : SBS W w g) (d : Below w.heap.size w w') : SBS W w' g :=
  ⟨on h.below d, Nat.lt_of_lt_of_le h.lt d.size, by rw [d.cell (p := ⟨g, 0, none⟩) h.lt]; exact h.cells.1, by rw [d.cell (p := ⟨g, 1, none⟩) h.lt]; exact h.cells.2.1, by rw [d.cell (p := ⟨g, 2, none⟩) h.lt]; exact h.cells.2.2.1, by rw [d.cell (p := ⟨g, 3, none⟩) h.lt]; exact h.cells.2.2.2⟩
theorem SBS.new (w : World) : SBS w (w.alloc (Obj.cells #[.int .i64 32, .int .i64 24, .int .i64 (-149), .int .u64 2143289345] 63)) w.heap.size := ⟨box _ _, by simp, by simp, by simp, by simp, by simp⟩
theorem inf_S (w : World) : Calls Tryd.prog 51 #[.agg #[.int .i64 32, .int .i64 24, .int .i64 (-149), .int .u64 2143289345]] w fun e w' => e = .returned (.int .u64 2139095040) ∧ Below w.heap.size w w' := by
  have hu63 := Tryd.underlying63
  go_enter Tryd.func51, Tryd.ntmps51
  go_wp2_with fail
  have HT := Lib.hid (SBS.new w)
  generalize (w.alloc (Obj.cells #[.int .i64 32, .int .i64 24, .int .i64 (-149), .int .u64 2143289345] 63)) = w0 at *
  generalize hg : w.heap.size = g at HT ⊢
  have HT := Lib.hid (HT.out.next ((Below.refl _ _).drew))
  have tok1 : True := trivial
  have tok2 : True := trivial
  go_region_held3 (fun w' => w'.cell? ⟨g, 0, none⟩ = some (.int .i64 32) ∧ w'.cell? ⟨g, 1, none⟩ = some (.int .i64 24) ∧ w'.cell? ⟨g, 2, none⟩ = some (.int .i64 (-149)) ∧ w'.cell? ⟨g, 3, none⟩ = some (.int .u64 2143289345))
    (exact HT.out.cells)
    (first
      | (go_at_call 81; have _t := tok1; (with_reducible refine (sign_S _).mono ?_); rintro e_ wx1 ⟨rfl, hd⟩; have HT := Lib.hid (HT.out.next hd); clear tok1 hd)
      | (go_at_call 55; have _t := tok2; (with_reducible refine (hidden_S _).mono ?_); rintro e_ wx2 ⟨rfl, hd⟩; have HT := Lib.hid (HT.out.next hd); clear tok2 hd))
  go_wp2_with fail
  go_ret
  exact ⟨rfl, HT.out.below⟩
theorem shapeOf_D (w : World) : Calls Tryd.prog 48 #[.int .i64 64] w fun e w' => e = .returned (.agg #[.int .i64 64, .int .i64 53, .int .i64 (-1074), .int .u64 9221120237041090561]) ∧ Below w.heap.size w w' := by
  go_enter Tryd.func48, Tryd.ntmps48
  go_wp2_with fail
  go_returns
  exact ⟨rfl, box _ _⟩
theorem sign_D (w : World) : Calls Tryd.prog 81 #[.agg #[.int .i64 64, .int .i64 53, .int .i64 (-1074), .int .u64 9221120237041090561]] w fun e w' => e = .returned (.int .u64 9223372036854775808) ∧ Below w.heap.size w w' := by
  go_enter Tryd.func81, Tryd.ntmps81
  go_wp2_with fail
  go_ret
  exact ⟨rfl, box _ _⟩
theorem hidden_D (w : World) : Calls Tryd.prog 55 #[.agg #[.int .i64 64, .int .i64 53, .int .i64 (-1074), .int .u64 9221120237041090561]] w fun e w' => e = .returned (.int .u64 4503599627370496) ∧ Below w.heap.size w w' := by
  go_enter Tryd.func55, Tryd.ntmps55
  go_wp2_with fail
  go_ret
  exact ⟨rfl, box _ _⟩
structure SBD (W w : World) (g : Nat) : Prop where mk :: (below : Below W.heap.size W w) (lt : g < w.heap.size) (cells : w.cell? ⟨g, 0, none⟩ = some (.int .i64 64) ∧ w.cell? ⟨g, 1, none⟩ = some (.int .i64 53) ∧ w.cell? ⟨g, 2, none⟩ = some (.int .i64 (-1074)) ∧ w.cell? ⟨g, 3, none⟩ = some (.int .u64 9221120237041090561))
theorem SBD.next {W w w' : World} {g : Nat} (h : SBD W w g) (d : Below w.heap.size w w') : SBD W w' g :=
  ⟨on h.below d, Nat.lt_of_lt_of_le h.lt d.size, by rw [d.cell (p := ⟨g, 0, none⟩) h.lt]; exact h.cells.1, by rw [d.cell (p := ⟨g, 1, none⟩) h.lt]; exact h.cells.2.1, by rw [d.cell (p := ⟨g, 2, none⟩) h.lt]; exact h.cells.2.2.1, by rw [d.cell (p := ⟨g, 3, none⟩) h.lt]; exact h.cells.2.2.2⟩
theorem SBD.new (w : World) : SBD w (w.alloc (Obj.cells #[.int .i64 64, .int .i64 53, .int .i64 (-1074), .int .u64 9221120237041090561] 63)) w.heap.size := ⟨box _ _, by simp, by simp, by simp, by simp, by simp⟩
theorem inf_D (w : World) : Calls Tryd.prog 51 #[.agg #[.int .i64 64, .int .i64 53, .int .i64 (-1074), .int .u64 9221120237041090561]] w fun e w' => e = .returned (.int .u64 9218868437227405312) ∧ Below w.heap.size w w' := by
  have hu63 := Tryd.underlying63
  go_enter Tryd.func51, Tryd.ntmps51
  go_wp2_with fail
  have HT := Lib.hid (SBD.new w)
  generalize (w.alloc (Obj.cells #[.int .i64 64, .int .i64 53, .int .i64 (-1074), .int .u64 9221120237041090561] 63)) = w0 at *
  generalize hg : w.heap.size = g at HT ⊢
  have HT := Lib.hid (HT.out.next ((Below.refl _ _).drew))
  have tok1 : True := trivial
  have tok2 : True := trivial
  go_region_held3 (fun w' => w'.cell? ⟨g, 0, none⟩ = some (.int .i64 64) ∧ w'.cell? ⟨g, 1, none⟩ = some (.int .i64 53) ∧ w'.cell? ⟨g, 2, none⟩ = some (.int .i64 (-1074)) ∧ w'.cell? ⟨g, 3, none⟩ = some (.int .u64 9221120237041090561))
    (exact HT.out.cells)
    (first
      | (go_at_call 81; have _t := tok1; (with_reducible refine (sign_D _).mono ?_); rintro e_ wx1 ⟨rfl, hd⟩; have HT := Lib.hid (HT.out.next hd); clear tok1 hd)
      | (go_at_call 55; have _t := tok2; (with_reducible refine (hidden_D _).mono ?_); rintro e_ wx2 ⟨rfl, hd⟩; have HT := Lib.hid (HT.out.next hd); clear tok2 hd))
  go_wp2_with fail
  go_ret
  exact ⟨rfl, HT.out.below⟩
end Go.Proofs.YthpnmkclboennaaDoor.BinA
