/- What DocValue and DocMid answer, told by numbers. Plain Lean. Conditions: words below 2^64. math/bits' table as the row's condition gives it, and math/bits.TrailingZeros64 by it. Condition: the table is laid. -/
import Derived.Test.YthpnmkclboennaaDoorKBinaryNeighboursPLenx0
import Derived.Test.YthpnmkclboennaaDoorKBinaryNeighboursPLibx2
import Derived.Test.YthpnmkclboennaaDoorKBinaryNeighboursPLibx9
import Derived.Test.YthpnmkclboennaaDoorKBinaryNeighboursPLibx7
import Derived.Test.YthpnmkclboennaaDoorKBinaryNeighboursBinRow
import Derived.Shelf.Spec.TrailingZeros
import Derived.Lib.LaidTab
section
namespace Go.Proofs.YthpnmkclboennaaDoor.BinW2
open Go.RowKit Go.Proofs.YthpnmkclboennaaDoorW.PrintWords Go.Proofs.YthpnmkclboennaaDoorW.PrintMore Go.Proofs.YthpnmkclboennaaDoor.Num Go.Proofs.YthpnmkclboennaaDoor.PLib Go.Proofs.YthpnmkclboennaaDoor.Ref Go.Proofs.YthpnmkclboennaaDoor.BinLaw Go.Proofs.YthpnmkclboennaaDoor.BinO2 Go.Proofs.YthpnmkclboennaaDoor.BinF Go.Proofs.YthpnmkclboennaaDoor.BinG Go.Proofs.YthpnmkclboennaaDoor.BinW
theorem n_step {f : Int} {F : Fmt} (h : Fm f F) (s : Nat) : nF F s + nF F (s + 1) = (2 * mgF F s + 1) * 2^(dF F s) := by
  have hh := (fm_hd h).1
  unfold nF mgF dF
  generalize hdF F = H at *
  have e1 := Nat.div_add_mod s H
  have hr : s % H < H := Nat.mod_lt _ hh
  generalize hq : s / H = q at *
  generalize hrr : s % H = r at *
  by_cases c : r + 1 < H
  · have d1 : (s + 1) / H = q := by
      rw [← e1, Nat.add_assoc, Nat.mul_add_div hh, Nat.div_eq_of_lt c]; omega
    have d2 : (s + 1) % H = r + 1 := by
      rw [← e1, Nat.add_assoc, Nat.mul_add_mod, Nat.mod_eq_of_lt c]
    rw [d1, d2, ← Nat.add_mul]
    congr 1
    by_cases q0 : q = 0
    · simp only [if_pos q0]; omega
    · simp only [if_neg q0]; omega
  · have hr1 : r + 1 = H := by omega
    have d1 : (s + 1) / H = q + 1 := by
      rw [← e1, Nat.add_assoc, hr1, ← Nat.mul_succ, Nat.mul_div_cancel_left _ hh]
    have d2 : (s + 1) % H = 0 := by
      rw [← e1, Nat.add_assoc, hr1, ← Nat.mul_succ, Nat.mul_mod_right]
    rw [d1, d2]
    cases q with
    | zero => simp; omega
    | succ q =>
      simp only [if_neg (Nat.succ_ne_zero _)]
      have e : 2^(q + 1 + 1 - 1) = 2 * 2^(q + 1 - 1) := by
        rw [show q + 1 + 1 - 1 = q + 1 by omega, show q + 1 - 1 = q by omega, Nat.pow_succ]; omega
      rw [e, Nat.add_zero, ← Nat.mul_assoc, ← Nat.add_mul]
      congr 1
      omega
end Go.Proofs.YthpnmkclboennaaDoor.BinW2
end
section
namespace Go.Proofs.YthpnmkclboennaaDoor.BinTab
open Go.RowKit Go.Proofs.YthpnmkclboennaaDoor.BinLaw Go.Proofs.YthpnmkclboennaaDoor.BinA Go.Proofs.YthpnmkclboennaaDoor.BinRow
structure Tab (w : World) : Prop where mk :: (at' : ∀ j, j < 64 → w.cell? ⟨0, j, none⟩ = some (.int .u8 ((Lib.deBruijn64tab.getD j 0 : Nat) : Int)))
theorem Tab.next {w w' : World} (h : Tab w) (d : Below w.heap.size w w') : Tab w' := by
  have h0 : 0 < w.heap.size := World.block_lt_of_cell? _ _ (h.at' 0 (by decide))
  exact ⟨fun j hj => by rw [d.cell (p := ⟨0, j, none⟩) h0]; exact h.at' j hj⟩
def zs : List Int := Lib.deBruijn64tab.map fun (n : Nat) => (n : Int)
theorem tab_data : (Rows.laid_math_bits_deBruijn64tab : DataW Unit) = Lib.tabData .u8 zs := by rfl
theorem zs_at : ∀ j, j < 64 → zs[j]? = some ((Lib.deBruijn64tab.getD j 0 : Nat) : Int) := by decide +kernel
theorem of_laid {W : World} (h : laidMetH Tryd.prog tabs W) : Tab W := by
  rw [MakeChecks.laidMetH_plain _ _ _ (by kernel_rfl)] at h
  unfold tabs at h
  rw [tab_data] at h
  have t := Lib.tabIs_of_head (g := 0) (t := 115) (e := 5) (n := 64) (by kernel_rfl) (by kernel_rfl) Tryd.underlying115 Tryd.underlying5 (by kernel_rfl) (by kernel_rfl) h
  unfold Lib.TabIs at t
  refine ⟨fun j hj => ?_⟩
  have := World.var?_cell (show Tryd.prog.globalNamed "math/bits.deBruijn64tab" = some 0 by kernel_rfl) t j
  rw [this]
  simp [zs_at j hj]
set_option maxRecDepth 100000 in
theorem tz_core (x k idx : Nat) (w : World) (hx0 : ((x : Int) == 0) = false)
    (key : IntKind.u64.wrap (bits BinOp.and IntKind.u64 (x : Int) (IntKind.u64.wrap (-(x : Int))) * 285870213051353865) / 288230376151711744 = (idx : Int))
    (hi : idx < 64) (hk : k < 64) (hcell : w.cell? ⟨0, idx, none⟩ = some (.int .u8 k)) :
    Calls Tryd.prog 53 #[.int .u64 x] w fun e w' => e = .returned (.int .i64 k) ∧ w' = w := by
  go_enter Tryd.func53, Tryd.ntmps53
  go_wp2_with (simp only [key])
  go_ret
  exact ⟨rfl, rfl⟩
theorem tz_any (x : Nat) (hx : x < 18446744073709551616) (hx0 : x ≠ 0) (w : World) (hT : Tab w) :
    Calls Tryd.prog 53 #[.int .u64 x] w fun e w' => e = .returned (.int .i64 ((Lib.ctz 64 x : Nat) : Int)) ∧ w' = w := by
  obtain ⟨hlow, hk⟩ := Lib.lowest_bit 64 x hx0 hx
  obtain ⟨hi, htab⟩ := Lib.deBruijn64_at _ hk
  have hc := hT.at' _ hi
  rw [htab] at hc
  have key := tz64_key x _ hx hx0 hlow
  exact tz_core x _ _ w (by simpa using hx0) key hi hk hc
end Go.Proofs.YthpnmkclboennaaDoor.BinTab
end
