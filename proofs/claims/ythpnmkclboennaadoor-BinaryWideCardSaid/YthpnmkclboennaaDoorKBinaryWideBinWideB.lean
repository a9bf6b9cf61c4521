/- The walk of the law BinaryWide where both words are finite. Condition: the calls' answers as told. -/
import Derived.Test.YthpnmkclboennaaDoorKBinaryWideBinWideA
namespace Go.Proofs.YthpnmkclboennaaDoor.BinWideB
open Go.RowKit Go.Proofs.YthpnmkclboennaaDoorW.PrintWords Go.Proofs.YthpnmkclboennaaDoorW.PrintMore Go.Proofs.YthpnmkclboennaaDoorW.PrintLast Go.Proofs.YthpnmkclboennaaDoor.Num Go.Proofs.YthpnmkclboennaaDoor.Ref Go.Proofs.YthpnmkclboennaaDoor.BinLaw Go.Proofs.YthpnmkclboennaaDoor.BinA Go.Proofs.YthpnmkclboennaaDoor.BinO2 Go.Proofs.YthpnmkclboennaaDoor.BinP Go.Proofs.YthpnmkclboennaaDoor.BinF Go.Proofs.YthpnmkclboennaaDoor.BinG Go.Proofs.YthpnmkclboennaaDoor.BinW Go.Proofs.YthpnmkclboennaaDoor.BinW2 Go.Proofs.YthpnmkclboennaaDoor.BinTab Go.Proofs.YthpnmkclboennaaDoor.BinV1 Go.Proofs.YthpnmkclboennaaDoor.BinAll Go.Proofs.YthpnmkclboennaaDoor.BinS Go.Proofs.YthpnmkclboennaaDoor.BinS2 Go.Proofs.YthpnmkclboennaaDoor.BinJ4 Go.Proofs.YthpnmkclboennaaDoor.BinJ5 Go.Proofs.YthpnmkclboennaaDoor.BinWd Go.Proofs.YthpnmkclboennaaDoor.BinWL Go.Proofs.YthpnmkclboennaaDoor.BinWL2 Go.Proofs.YthpnmkclboennaaDoor.BinaryWidensW Go.Proofs.YthpnmkclboennaaDoor.BinAwake Go.Proofs.YthpnmkclboennaaDoor.BinWideA
abbrev Ans (fn : Nat) (args : Array Value) (r : Value) : Prop := ∀ w : World, Calls Tryd.prog fn args w fun e w' => e = .returned (.tuple #[r, .int .i64 0]) ∧ Below w.heap.size w w'
abbrev AnsT (fn : Nat) (args : Array Value) (r : Value) : Prop := ∀ w : World, Tab w → Calls Tryd.prog fn args w fun e w' => e = .returned (.tuple #[r, .int .i64 0]) ∧ Below w.heap.size w w'
set_option maxRecDepth 100000 in
set_option maxHeartbeats 800000 in
theorem wide_fin (a b : Nat) (A B x y cd ra rb rx ry vx : Int) (ng neg p q : Bool) (l : List Int) (hl : l.length ≤ 1) (q1 : (a : Int) % 4294967296 = A) (q2 : (b : Int) % 4294967296 = B)
    (HX : AnsT 19 #[.int .u64 A] (.int .u64 x)) (HY : AnsT 19 #[.int .u64 B] (.int .u64 y))
    (HF : ∀ w : World, Calls Tryd.prog 20 #[.int .i64 32, .int .u64 A] w fun e w' => e = .returned (.bool true) ∧ Below w.heap.size w w')
    (HG : ∀ w : World, Calls Tryd.prog 20 #[.int .i64 32, .int .u64 B] w fun e w' => e = .returned (.bool true) ∧ Below w.heap.size w w')
    (HV : ∀ w, Tab w → Calls Tryd.prog 13 #[.int .i64 32, .int .u64 A] w (DyE ng l vx 0 w)) (HW : ∀ w, Tab w → Calls Tryd.prog 13 #[.int .i64 64, .int .u64 x] w (DyE ng l vx 0 w))
    (HD : Ans 21 #[.int .i64 64, .int .u64 x] (.int .i64 cd)) (HR1 : Ans 22 #[.int .i64 32, .int .u64 A] (.int .i64 ra)) (HR2 : Ans 22 #[.int .i64 32, .int .u64 B] (.int .i64 rb))
    (HR3 : Ans 22 #[.int .i64 64, .int .u64 x] (.int .i64 rx)) (HR4 : Ans 22 #[.int .i64 64, .int .u64 y] (.int .i64 ry))
    (g1 : decide (2147483648 ≤ A) = neg) (g2 : decide (9223372036854775808 ≤ x) = neg) (hcd : cd = 2 ∨ (cd ≠ 2 ∧ Int.tmod x 9223372036854775808 = 0))
    (p1 : decide (ra < rb) = p) (p2 : decide (rx < ry) = p) (r1 : decide (rb < ra) = q) (r2 : decide (ry < rx) = q) (W : World) (hT : Tab W) :
    Calls Tryd.prog 4 #[.int .u64 (a : Int), .int .u64 (b : Int)] W (OnW W) := by
  have HX := Lib.hid HX
  have HY := Lib.hid HY
  have HF := Lib.hid HF
  have HG := Lib.hid HG
  have HV := Lib.hid HV
  have HW := Lib.hid HW
  have HD := Lib.hid HD
  have HR1 := Lib.hid HR1
  have HR2 := Lib.hid HR2
  have HR3 := Lib.hid HR3
  have HR4 := Lib.hid HR4
  have HL := Lib.hid hl
  have T := Lib.hid hT
  clear hT hl
  rcases hcd with rfl | ⟨hcd, hz⟩
  · go_enter Tryd.func4, Tryd.ntmps4
    go_wp2_with fail
    refine (BinAwake.awake_any _ T.out).mono ?_
    rintro e w1 ⟨rfl, h1⟩
    have HB := Lib.hid h1
    have T := Lib.hid (T.out.next h1)
    clear h1
    go_wp2_with fail
    refine (HX.out _ T.out).mono ?_
    rintro e w2 ⟨rfl, h1⟩
    have HB := Lib.hid (on HB.out h1)
    have T := Lib.hid (T.out.next h1)
    clear h1
    go_wp2_with fail
    refine (HY.out _ T.out).mono ?_
    rintro e w3 ⟨rfl, h1⟩
    have HB := Lib.hid (on HB.out h1)
    have T := Lib.hid (T.out.next h1)
    clear h1
    go_wp2_with fail
    refine (HF.out _).mono ?_
    rintro e w4 ⟨rfl, h1⟩
    have HB := Lib.hid (on HB.out h1)
    have T := Lib.hid (T.out.next h1)
    clear h1
    go_wp2_with fail
    refine (HG.out _).mono ?_
    rintro e w5 ⟨rfl, h1⟩
    have HB := Lib.hid (on HB.out h1)
    have T := Lib.hid (T.out.next h1)
    clear h1
    go_wp2_with fail
    refine (HV.out _ T.out).mono ?_
    rintro e w6 ⟨⟨A1, c1, rfl, L1⟩, h1⟩
    have bx := box w6 (Obj.cells #[.bool ng, .slice A1 l.length c1, .int .i64 vx] 29)
    have HB := Lib.hid (on HB.out (on h1 bx))
    have T := Lib.hid ((T.out.next h1).next bx)
    have K1 := Lib.hid (blk_new w6 (Obj.cells #[.bool ng, .slice A1 l.length c1, .int .i64 vx] 29))
    have L1 := Lib.hid (L1.next bx)
    clear h1 bx
    go_wp2_with fail
    refine (HW.out _ T.out).mono ?_
    rintro e w7 ⟨⟨A2, c2, rfl, L2⟩, h1⟩
    have bx := box w7 (Obj.cells #[.bool ng, .slice A2 l.length c2, .int .i64 vx] 29)
    have HB := Lib.hid (on HB.out (on h1 bx))
    have K1 := Lib.hid (blk_below (blk_below K1.out h1) bx)
    have K2 := Lib.hid (blk_new w7 (Obj.cells #[.bool ng, .slice A2 l.length c2, .int .i64 vx] 29))
    have L1 := Lib.hid ((L1.out.next h1).next bx)
    have L2 := Lib.hid (L2.next bx)
    clear h1 bx T
    go_wp2_with fail
    refine (HD.out _).mono ?_
    rintro e w8 ⟨rfl, h1⟩
    have HB := Lib.hid (on HB.out h1)
    have L1 := Lib.hid (L1.out.next h1)
    have L2 := Lib.hid (L2.out.next h1)
    have k1 := blk_below K1.out h1
    have k2 := blk_below K2.out h1
    have z0 : w8.cell? ⟨w6.heap.size, 0, none⟩ = some (.bool ng) := (blk_cell k1 0).trans rfl
    have z1 : w8.cell? ⟨w6.heap.size, 1, none⟩ = some (.slice A1 l.length c1) := (blk_cell k1 1).trans rfl
    have z2 : w8.cell? ⟨w6.heap.size, 2, none⟩ = some (.int .i64 vx) := (blk_cell k1 2).trans rfl
    have y0 : w8.cell? ⟨w7.heap.size, 0, none⟩ = some (.bool ng) := (blk_cell k2 0).trans rfl
    have y1 : w8.cell? ⟨w7.heap.size, 1, none⟩ = some (.slice A2 l.length c2) := (blk_cell k2 1).trans rfl
    have y2 : w8.cell? ⟨w7.heap.size, 2, none⟩ = some (.int .i64 vx) := (blk_cell k2 2).trans rfl
    clear h1 k1 k2 K1 K2
    go_wp2_with fail
    refine (same_any ng l vx _ (by have := HL.out; omega) L1.out L2.out).mono ?_
    rintro e w9 ⟨rfl, h1⟩
    have HB := Lib.hid (on HB.out h1)
    clear h1 z0 z1 z2 y0 y1 y2
    go_wp2_with fail
    refine (HR1.out _).mono ?_
    rintro e w10 ⟨rfl, h1⟩
    have HB := Lib.hid (on HB.out h1)
    clear h1
    go_wp2_with fail
    refine (HR2.out _).mono ?_
    rintro e w11 ⟨rfl, h1⟩
    have HB := Lib.hid (on HB.out h1)
    clear h1
    go_wp2_with fail
    refine (HR3.out _).mono ?_
    rintro e w12 ⟨rfl, h1⟩
    have HB := Lib.hid (on HB.out h1)
    clear h1
    go_wp2_with fail
    refine (HR4.out _).mono ?_
    rintro e w13 ⟨rfl, h1⟩
    have HB := Lib.hid (on HB.out h1)
    clear h1
    go_wp2_with fail
    go_ret
    exact ⟨by simp, HB.out⟩
  · have m1 : (cd != 2) = true := by simpa using hcd
    have m2 : (cd == 2) = false := by simpa using hcd
    have m3 : (Int.tmod x 9223372036854775808 != 0) = false := by simpa using hz
    have m4 : (Int.tmod x 9223372036854775808 == 0) = true := by simpa using hz
    clear hz
    go_enter Tryd.func4, Tryd.ntmps4
    go_wp2_with fail
    refine (BinAwake.awake_any _ T.out).mono ?_
    rintro e w1 ⟨rfl, h1⟩
    have HB := Lib.hid h1
    have T := Lib.hid (T.out.next h1)
    clear h1
    go_wp2_with fail
    refine (HX.out _ T.out).mono ?_
    rintro e w2 ⟨rfl, h1⟩
    have HB := Lib.hid (on HB.out h1)
    have T := Lib.hid (T.out.next h1)
    clear h1
    go_wp2_with fail
    refine (HY.out _ T.out).mono ?_
    rintro e w3 ⟨rfl, h1⟩
    have HB := Lib.hid (on HB.out h1)
    have T := Lib.hid (T.out.next h1)
    clear h1
    go_wp2_with fail
    refine (HF.out _).mono ?_
    rintro e w4 ⟨rfl, h1⟩
    have HB := Lib.hid (on HB.out h1)
    have T := Lib.hid (T.out.next h1)
    clear h1
    go_wp2_with fail
    refine (HG.out _).mono ?_
    rintro e w5 ⟨rfl, h1⟩
    have HB := Lib.hid (on HB.out h1)
    have T := Lib.hid (T.out.next h1)
    clear h1
    go_wp2_with fail
    refine (HV.out _ T.out).mono ?_
    rintro e w6 ⟨⟨A1, c1, rfl, L1⟩, h1⟩
    have bx := box w6 (Obj.cells #[.bool ng, .slice A1 l.length c1, .int .i64 vx] 29)
    have HB := Lib.hid (on HB.out (on h1 bx))
    have T := Lib.hid ((T.out.next h1).next bx)
    have K1 := Lib.hid (blk_new w6 (Obj.cells #[.bool ng, .slice A1 l.length c1, .int .i64 vx] 29))
    have L1 := Lib.hid (L1.next bx)
    clear h1 bx
    go_wp2_with fail
    refine (HW.out _ T.out).mono ?_
    rintro e w7 ⟨⟨A2, c2, rfl, L2⟩, h1⟩
    have bx := box w7 (Obj.cells #[.bool ng, .slice A2 l.length c2, .int .i64 vx] 29)
    have HB := Lib.hid (on HB.out (on h1 bx))
    have K1 := Lib.hid (blk_below (blk_below K1.out h1) bx)
    have K2 := Lib.hid (blk_new w7 (Obj.cells #[.bool ng, .slice A2 l.length c2, .int .i64 vx] 29))
    have L1 := Lib.hid ((L1.out.next h1).next bx)
    have L2 := Lib.hid (L2.next bx)
    clear h1 bx T
    go_wp2_with fail
    refine (HD.out _).mono ?_
    rintro e w8 ⟨rfl, h1⟩
    have HB := Lib.hid (on HB.out h1)
    have L1 := Lib.hid (L1.out.next h1)
    have L2 := Lib.hid (L2.out.next h1)
    have k1 := blk_below K1.out h1
    have k2 := blk_below K2.out h1
    have z0 : w8.cell? ⟨w6.heap.size, 0, none⟩ = some (.bool ng) := (blk_cell k1 0).trans rfl
    have z1 : w8.cell? ⟨w6.heap.size, 1, none⟩ = some (.slice A1 l.length c1) := (blk_cell k1 1).trans rfl
    have z2 : w8.cell? ⟨w6.heap.size, 2, none⟩ = some (.int .i64 vx) := (blk_cell k1 2).trans rfl
    have y0 : w8.cell? ⟨w7.heap.size, 0, none⟩ = some (.bool ng) := (blk_cell k2 0).trans rfl
    have y1 : w8.cell? ⟨w7.heap.size, 1, none⟩ = some (.slice A2 l.length c2) := (blk_cell k2 1).trans rfl
    have y2 : w8.cell? ⟨w7.heap.size, 2, none⟩ = some (.int .i64 vx) := (blk_cell k2 2).trans rfl
    clear h1 k1 k2 K1 K2
    go_wp2_with fail
    refine (same_any ng l vx _ (by have := HL.out; omega) L1.out L2.out).mono ?_
    rintro e w9 ⟨rfl, h1⟩
    have HB := Lib.hid (on HB.out h1)
    clear h1 z0 z1 z2 y0 y1 y2
    go_wp2_with fail
    refine (HR1.out _).mono ?_
    rintro e w10 ⟨rfl, h1⟩
    have HB := Lib.hid (on HB.out h1)
    clear h1
    go_wp2_with fail
    refine (HR2.out _).mono ?_
    rintro e w11 ⟨rfl, h1⟩
    have HB := Lib.hid (on HB.out h1)
    clear h1
    go_wp2_with fail
    refine (HR3.out _).mono ?_
    rintro e w12 ⟨rfl, h1⟩
    have HB := Lib.hid (on HB.out h1)
    clear h1
    go_wp2_with fail
    refine (HR4.out _).mono ?_
    rintro e w13 ⟨rfl, h1⟩
    have HB := Lib.hid (on HB.out h1)
    clear h1
    go_wp2_with fail
    go_ret
    exact ⟨by simp, HB.out⟩
end Go.Proofs.YthpnmkclboennaaDoor.BinWideB
