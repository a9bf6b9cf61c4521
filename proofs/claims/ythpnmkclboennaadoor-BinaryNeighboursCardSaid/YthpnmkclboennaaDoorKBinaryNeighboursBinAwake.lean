/- The law's awake: it returns true. Condition: math/bits' table is laid. -/
import Derived.Test.YthpnmkclboennaaDoorKBinaryNeighboursBinJ4
import Derived.Test.YthpnmkclboennaaDoorKBinaryNeighboursBinaryMidsW
namespace Go.Proofs.YthpnmkclboennaaDoor.BinAwake
open Go.RowKit Go.Proofs.YthpnmkclboennaaDoorW.PrintWords Go.Proofs.YthpnmkclboennaaDoorW.PrintMore Go.Proofs.YthpnmkclboennaaDoorW.PrintLast Go.Proofs.YthpnmkclboennaaDoor.Num Go.Proofs.YthpnmkclboennaaDoor.Ref Go.Proofs.YthpnmkclboennaaDoor.BinLaw Go.Proofs.YthpnmkclboennaaDoor.BinA Go.Proofs.YthpnmkclboennaaDoor.BinO2 Go.Proofs.YthpnmkclboennaaDoor.BinF Go.Proofs.YthpnmkclboennaaDoor.BinG Go.Proofs.YthpnmkclboennaaDoor.BinW Go.Proofs.YthpnmkclboennaaDoor.BinTab Go.Proofs.YthpnmkclboennaaDoor.BinM Go.Proofs.YthpnmkclboennaaDoor.BinM2 Go.Proofs.YthpnmkclboennaaDoor.BinV1 Go.Proofs.YthpnmkclboennaaDoor.BinAll Go.Proofs.YthpnmkclboennaaDoor.BinS Go.Proofs.YthpnmkclboennaaDoor.BinS2 Go.Proofs.YthpnmkclboennaaDoor.BinaryMidsW Go.Proofs.YthpnmkclboennaaDoor.BinJ4
theorem join_at (w : World) (hT : Tab w) : Calls Tryd.prog 24 #[.int .i64 64, .bool true, .int .u64 3, .int .i64 (-1)] w fun e w' => e = .returned (.tuple #[.int .u64 13832806255468478464, .int .i64 0]) ∧ Below w.heap.size w w' := by
  have h := Join_any (f := 64) (F := fD) (.inr ⟨rfl, rfl⟩) true 3 (-1) (by decide) (by decide) (by decide) w hT
  have e : jnF fD true 3 (-1) = (13832806255468478464, 0) := by decide +kernel
  rw [e] at h
  exact h
theorem value_at (w : World) (hT : Tab w) : Calls Tryd.prog 13 #[.int .i64 64, .int .u64 13832806255468478464] w (DyE true [3] (-1) 0 w) := by
  have h := (Value_ok (f := 64) (F := fD) (.inr ⟨rfl, rfl⟩) 13832806255468478464 (by decide) (by decide) w hT).mono fun _ _ x => dye x
  have e1 : (decide (fD.sg ≤ 13832806255468478464) && decide (mgF fD (13832806255468478464 % fD.sg) ≠ 0)) = true := by decide +kernel
  have e2 : dyl (mgF fD (13832806255468478464 % fD.sg)) = [3] := by decide +kernel
  have e3 : dyx (mgF fD (13832806255468478464 % fD.sg)) (xpF fD (13832806255468478464 % fD.sg)) = -1 := by decide +kernel
  rw [e1, e2, e3] at h
  exact h
theorem class_at (w : World) : Calls Tryd.prog 21 #[.int .i64 32, .int .u64 4286578689] w fun e w' => e = .returned (.tuple #[.int .i64 4, .int .i64 0]) ∧ Below w.heap.size w w' := by
  obtain ⟨r1, r2, e1, e2⟩ := class_same 32 4286578689 (by decide)
  have e3 : PLib.gnomonref07_DocClass.f 32 ((4286578689 : Nat) : Int) = some (4, 0) := by decide +kernel
  rw [e3] at e2
  obtain ⟨rfl, rfl⟩ := Prod.mk.inj (Option.some.inj e2)
  obtain ⟨k, hk⟩ := e1.rounds
  exact PLib.binary_ClassOf.calls k _ _ _ _ w hk
set_option maxRecDepth 100000 in
theorem awake_any (w : World) (hT : Tab w) : Calls Tryd.prog 12 #[] w (OnW w) := by
  have T := Lib.hid hT
  clear hT
  go_enter Tryd.func12, Tryd.ntmps12
  go_wp2_with fail
  refine (join_at _ T.out).mono ?_
  rintro e w1 ⟨rfl, h1⟩
  have HB := Lib.hid h1
  have T := Lib.hid (T.out.next h1)
  clear h1
  go_wp2_with fail
  refine (value_at _ T.out).mono ?_
  rintro e w2 ⟨⟨A, c, rfl, hA⟩, h1⟩
  simp only [List.length_cons, List.length_nil, Nat.zero_add]
  have bx := box w2 (Obj.cells #[.bool true, .slice A 1 c, .int .i64 (-1)] 29)
  have HA := Lib.hid (hA.next bx)
  have K := Lib.hid (blk_new w2 (Obj.cells #[.bool true, .slice A 1 c, .int .i64 (-1)] 29))
  have HB := Lib.hid (on HB.out (on h1 bx))
  clear h1 hA bx T
  go_wp2_with fail
  refine (class_at _).mono ?_
  rintro e w3 ⟨rfl, h1⟩
  have HB := Lib.hid (on HB.out h1)
  have HA := Lib.hid (HA.out.next h1)
  have K := Lib.hid (blk_below K.out h1)
  have z0 : w3.cell? ⟨w2.heap.size, 0, none⟩ = some (.bool true) := (blk_cell K.out 0).trans rfl
  have z1 : w3.cell? ⟨w2.heap.size, 1, none⟩ = some (.slice A 1 c) := (blk_cell K.out 1).trans rfl
  have z2 : w3.cell? ⟨w2.heap.size, 2, none⟩ = some (.int .i64 (-1)) := (blk_cell K.out 2).trans rfl
  clear h1
  go_wp2_with fail
  have SN := same_new 3 3 rfl A c _ HA.out
  refine SN.mono ?_
  rintro e w4 ⟨rfl, h2⟩
  have HB := Lib.hid (on HB.out (on (box w3 (Obj.cells #[.int .u64 3] 23)) h2))
  clear h2 SN
  go_wp2_with fail
  go_ret
  exact ⟨rfl, HB.out⟩
end Go.Proofs.YthpnmkclboennaaDoor.BinAwake
