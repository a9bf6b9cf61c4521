/- The walk of the law BinaryNeighbours: it returns true, and the world has at most new blocks. Condition: math/bits' table is laid. -/
import Derived.Test.YthpnmkclboennaaDoorKBinaryNeighboursNtV
import Derived.Test.YthpnmkclboennaaDoorKBinaryNeighboursBinY
import Derived.Test.YthpnmkclboennaaDoorKBinaryNeighboursBinarySteps0W
namespace Go.Proofs.YthpnmkclboennaaDoor.BinaryNeighboursW
open Go.RowKit Go.Proofs.YthpnmkclboennaaDoorW.PrintWords Go.Proofs.YthpnmkclboennaaDoorW.PrintMore Go.Proofs.YthpnmkclboennaaDoorW.PrintLast Go.Proofs.YthpnmkclboennaaDoor.Num Go.Proofs.YthpnmkclboennaaDoor.Ref Go.Proofs.YthpnmkclboennaaDoor.BinLaw Go.Proofs.YthpnmkclboennaaDoor.BinA Go.Proofs.YthpnmkclboennaaDoor.BinO2 Go.Proofs.YthpnmkclboennaaDoor.BinF Go.Proofs.YthpnmkclboennaaDoor.BinG Go.Proofs.YthpnmkclboennaaDoor.BinW Go.Proofs.YthpnmkclboennaaDoor.BinTab Go.Proofs.YthpnmkclboennaaDoor.BinY Go.Proofs.YthpnmkclboennaaDoor.BinAll Go.Proofs.YthpnmkclboennaaDoor.BinRj Go.Proofs.YthpnmkclboennaaDoor.BinWL2 Go.Proofs.YthpnmkclboennaaDoor.BinarySteps0W Go.Proofs.YthpnmkclboennaaDoor.BinaryRejoinsW Go.Proofs.YthpnmkclboennaaDoor.NtTh Go.Proofs.YthpnmkclboennaaDoor.NtA Go.Proofs.YthpnmkclboennaaDoor.NtE Go.Proofs.YthpnmkclboennaaDoor.NtF Go.Proofs.YthpnmkclboennaaDoor.NtV
theorem bx_cells {w : World} {g : Nat} {a b c : Value} (h : w.heap[g]? = some (.cells #[a, b, c] 29 (0, 0))) : w.cell? ⟨g, 0, none⟩ = some a ∧ w.cell? ⟨g, 1, none⟩ = some b ∧ w.cell? ⟨g, 2, none⟩ = some c := ⟨(blk_cell h 0).trans rfl, (blk_cell h 1).trans rfl, (blk_cell h 2).trans rfl⟩
set_option maxRecDepth 100000 in
set_option maxHeartbeats 4000000 in
theorem nb_fin (f a o b c d fa SG k j i xv xw xu : Int) (nv nw nu fb : Bool) (mv mw mu : Nat)
    (HF : ∀ w : World, Calls Tryd.prog 20 #[.int .i64 f, .int .u64 a] w fun e w' => e = .returned (.bool true) ∧ Below w.heap.size w w')
    (HFo : ∀ w : World, Calls Tryd.prog 20 #[.int .i64 f, .int .u64 o] w fun e w' => e = .returned (.bool true) ∧ Below w.heap.size w w')
    (HFb : ∀ w : World, Calls Tryd.prog 20 #[.int .i64 f, .int .u64 b] w fun e w' => e = .returned (.bool fb) ∧ Below w.heap.size w w')
    (HG : ∀ w : World, Calls Tryd.prog 25 #[.int .i64 f] w fun e w' => e = .returned (.int .u64 SG) ∧ Below w.heap.size w w')
    (HN : ∀ w : World, Calls Tryd.prog 32 #[.int .i64 f, .int .u64 a] w fun e w' => e = .returned (.tuple #[.int .u64 b, .int .i64 0]) ∧ Below w.heap.size w w')
    (HP : ∀ w : World, Calls Tryd.prog 33 #[.int .i64 f, .int .u64 b] w fun e w' => e = .returned (.tuple #[.int .u64 c, .int .i64 0]) ∧ Below w.heap.size w w')
    (HP2 : ∀ w : World, Calls Tryd.prog 33 #[.int .i64 f, .int .u64 fa] w fun e w' => e = .returned (.tuple #[.int .u64 d, .int .i64 0]) ∧ Below w.heap.size w w')
    (hc : c = a ∨ ((c != a) = true ∧ Int.tmod a SG = 0 ∧ c = 0)) (hsg2 : ¬ SG = 0) (x1 : bits .xor .u64 a SG = fa) (x2 : bits .xor .u64 b SG = d)
    (HV : ∀ w, Tab w → Calls Tryd.prog 13 #[.int .i64 f, .int .u64 a] w (VW nv mv xv w))
    (HW : ∀ w, Tab w → Calls Tryd.prog 13 #[.int .i64 f, .int .u64 o] w (VW nw mw xw w))
    (HU : fb = true → ∀ w, Tab w → Calls Tryd.prog 13 #[.int .i64 f, .int .u64 b] w (VW nu mu xu w))
    (hk : dcm nv mv xv nw mw xw = k) (hj : dcm nw mw xw nu mu xu = j) (hi : dcm nv mv xv nu mu xu = i)
    (g1 : fb = false → decide (0 ≤ k) = true) (g2 : fb = true → decide (i < 0) = true ∧ (decide (0 ≤ k) = true ∨ decide (0 ≤ k) = false ∧ decide (0 ≤ j) = true)) (W : World) (hT : Tab W) :
    Calls Tryd.prog 10 #[.int .i64 f, .int .u64 a, .int .u64 o] W (OnW W) := by
  have HF := Lib.hid HF
  have HFo := Lib.hid HFo
  have HFb := Lib.hid HFb
  have HG := Lib.hid HG
  have HN := Lib.hid HN
  have HP := Lib.hid HP
  have HP2 := Lib.hid HP2
  have HV := Lib.hid HV
  have HW := Lib.hid HW
  have HU := Lib.hid HU
  have C1 := Lib.hid (fun w A B ca cb h h' => dcmp_any w nv nw A B ca cb mv mw xv xw h h')
  have C2 := Lib.hid (fun w A B ca cb h h' => dcmp_any w nw nu A B ca cb mw mu xw xu h h')
  have C3 := Lib.hid (fun w A B ca cb h h' => dcmp_any w nv nu A B ca cb mv mu xv xu h h')
  rw [hk] at C1
  rw [hj] at C2
  rw [hi] at C3
  have T := Lib.hid hT
  have G1 := Lib.hid (And.intro g1 g2)
  clear hk hj hi hT g1 g2
  have HC := Lib.hid hc
  clear hc
  rcases HC.out with rfl | ⟨hc1, hc2, rfl⟩
  · clear HC
    go_enter Tryd.func10, Tryd.ntmps10
    go_wp2_with fail
    refine (BinAwake.awake_any _ T.out).mono ?_
    rintro e w1 ⟨rfl, h1⟩
    have HB := Lib.hid h1
    have T := Lib.hid (T.out.next h1)
    clear h1
    go_wp2_with fail
    refine (steps_any _).mono ?_
    rintro e w2 ⟨rfl, h1⟩
    have HB := Lib.hid (on HB.out h1)
    have T := Lib.hid (T.out.next h1)
    clear h1
    go_wp2_with fail
    refine (HF.out _).mono ?_
    rintro e w3 ⟨rfl, h1⟩
    have HB := Lib.hid (on HB.out h1)
    have T := Lib.hid (T.out.next h1)
    clear h1
    go_wp2_with fail
    refine (HFo.out _).mono ?_
    rintro e w4 ⟨rfl, h1⟩
    have HB := Lib.hid (on HB.out h1)
    have T := Lib.hid (T.out.next h1)
    clear h1
    go_wp2_with fail
    refine (HN.out _).mono ?_
    rintro e w5 ⟨rfl, h1⟩
    have HB := Lib.hid (on HB.out h1)
    have T := Lib.hid (T.out.next h1)
    clear h1
    go_wp2_with fail
    refine (HP.out _).mono ?_
    rintro e w6 ⟨rfl, h1⟩
    have HB := Lib.hid (on HB.out h1)
    have T := Lib.hid (T.out.next h1)
    clear h1
    go_wp2_with fail
    refine (HG.out _).mono ?_
    rintro e w7 ⟨rfl, h1⟩
    have HB := Lib.hid (on HB.out h1)
    have T := Lib.hid (T.out.next h1)
    clear h1
    go_wp2_with fail
    refine (HP2.out _).mono ?_
    rintro e w8 ⟨rfl, h1⟩
    have HB := Lib.hid (on HB.out h1)
    have T := Lib.hid (T.out.next h1)
    clear h1
    go_wp2_with fail
    refine (HG.out _).mono ?_
    rintro e w9 ⟨rfl, h1⟩
    have HB := Lib.hid (on HB.out h1)
    have T := Lib.hid (T.out.next h1)
    clear h1
    go_wp2_with fail
    refine (HV.out _ T.out).mono ?_
    rintro e w10 ⟨⟨A1, c1, rfl, hy⟩, h1⟩
    have bx := box w10 (Obj.cells #[.bool nv, .slice A1 (nl mv) c1, .int .i64 xv] 29)
    have HB := Lib.hid (on HB.out (on h1 bx))
    have T := Lib.hid ((T.out.next h1).next bx)
    have Y1 := Lib.hid (hy.next bx)
    have K1 := Lib.hid (blk_new w10 (Obj.cells #[.bool nv, .slice A1 (nl mv) c1, .int .i64 xv] 29))
    clear hy h1 bx
    go_wp2_with fail
    refine (HW.out _ T.out).mono ?_
    rintro e w11 ⟨⟨A2, c2, rfl, hy⟩, h1⟩
    have bx := box w11 (Obj.cells #[.bool nw, .slice A2 (nl mw) c2, .int .i64 xw] 29)
    have HB := Lib.hid (on HB.out (on h1 bx))
    have T := Lib.hid ((T.out.next h1).next bx)
    have Y1 := Lib.hid ((Y1.out.next h1).next bx)
    have K1 := Lib.hid (blk_below (blk_below K1.out h1) bx)
    have Y2 := Lib.hid (hy.next bx)
    have K2 := Lib.hid (blk_new w11 (Obj.cells #[.bool nw, .slice A2 (nl mw) c2, .int .i64 xw] 29))
    clear hy h1 bx
    obtain ⟨za1, zb1, zc1⟩ := bx_cells K1.out
    obtain ⟨za2, zb2, zc2⟩ := bx_cells K2.out
    go_wp2_with fail
    clear za1 zb1 zc1 za2 zb2 zc2
    refine (C1.out _ _ _ _ _ Y1.out Y2.out).mono ?_
    rintro e w12 ⟨rfl, h1⟩
    have HB := Lib.hid (on HB.out h1)
    have T := Lib.hid (T.out.next h1)
    have Y1 := Lib.hid (Y1.out.next h1)
    have K1 := Lib.hid (blk_below K1.out h1)
    have Y2 := Lib.hid (Y2.out.next h1)
    have K2 := Lib.hid (blk_below K2.out h1)
    clear h1
    go_wp2_with fail
    refine (HFb.out _).mono ?_
    rintro e w13 ⟨rfl, h1⟩
    have HB := Lib.hid (on HB.out h1)
    have T := Lib.hid (T.out.next h1)
    have Y1 := Lib.hid (Y1.out.next h1)
    have K1 := Lib.hid (blk_below K1.out h1)
    have Y2 := Lib.hid (Y2.out.next h1)
    have K2 := Lib.hid (blk_below K2.out h1)
    clear h1
    cases fb
    · have g1 := G1.out.1 rfl
      clear G1 HU
      go_wp2_with fail
      go_ret
      exact ⟨rfl, HB.out⟩
    · have g2 := (G1.out.2 rfl).1
      have G3 := Lib.hid (G1.out.2 rfl).2
      have HU2 := Lib.hid (HU.out rfl)
      go_wp2_with fail
      refine (HU2.out _ T.out).mono ?_
      rintro e w14 ⟨⟨A3, c3, rfl, hy⟩, h1⟩
      have bx := box w14 (Obj.cells #[.bool nu, .slice A3 (nl mu) c3, .int .i64 xu] 29)
      have HB := Lib.hid (on HB.out (on h1 bx))
      have T := Lib.hid ((T.out.next h1).next bx)
      have Y1 := Lib.hid ((Y1.out.next h1).next bx)
      have K1 := Lib.hid (blk_below (blk_below K1.out h1) bx)
      have Y2 := Lib.hid ((Y2.out.next h1).next bx)
      have K2 := Lib.hid (blk_below (blk_below K2.out h1) bx)
      have Y3 := Lib.hid (hy.next bx)
      have K3 := Lib.hid (blk_new w14 (Obj.cells #[.bool nu, .slice A3 (nl mu) c3, .int .i64 xu] 29))
      clear hy h1 bx
      obtain ⟨za2, zb2, zc2⟩ := bx_cells K2.out
      obtain ⟨za3, zb3, zc3⟩ := bx_cells K3.out
      go_wp2_with fail
      clear za2 zb2 zc2 za3 zb3 zc3
      refine (C2.out _ _ _ _ _ Y2.out Y3.out).mono ?_
      rintro e w15 ⟨rfl, h1⟩
      have HB := Lib.hid (on HB.out h1)
      have T := Lib.hid (T.out.next h1)
      have Y1 := Lib.hid (Y1.out.next h1)
      have K1 := Lib.hid (blk_below K1.out h1)
      have Y2 := Lib.hid (Y2.out.next h1)
      have K2 := Lib.hid (blk_below K2.out h1)
      have Y3 := Lib.hid (Y3.out.next h1)
      have K3 := Lib.hid (blk_below K3.out h1)
      clear h1
      obtain ⟨za1, zb1, zc1⟩ := bx_cells K1.out
      obtain ⟨za3, zb3, zc3⟩ := bx_cells K3.out
      go_wp2_with fail
      clear za1 zb1 zc1 za3 zb3 zc3
      refine (C3.out _ _ _ _ _ Y1.out Y3.out).mono ?_
      rintro e w16 ⟨rfl, h1⟩
      have HB := Lib.hid (on HB.out h1)
      have T := Lib.hid (T.out.next h1)
      clear h1
      rcases G3.out with g3 | ⟨g3, g4⟩
      · go_wp2_with fail
        go_ret
        exact ⟨rfl, HB.out⟩
      · go_wp2_with fail
        go_ret
        exact ⟨rfl, HB.out⟩
  · clear HC
    go_enter Tryd.func10, Tryd.ntmps10
    go_wp2_with fail
    refine (BinAwake.awake_any _ T.out).mono ?_
    rintro e w1 ⟨rfl, h1⟩
    have HB := Lib.hid h1
    have T := Lib.hid (T.out.next h1)
    clear h1
    go_wp2_with fail
    refine (steps_any _).mono ?_
    rintro e w2 ⟨rfl, h1⟩
    have HB := Lib.hid (on HB.out h1)
    have T := Lib.hid (T.out.next h1)
    clear h1
    go_wp2_with fail
    refine (HF.out _).mono ?_
    rintro e w3 ⟨rfl, h1⟩
    have HB := Lib.hid (on HB.out h1)
    have T := Lib.hid (T.out.next h1)
    clear h1
    go_wp2_with fail
    refine (HFo.out _).mono ?_
    rintro e w4 ⟨rfl, h1⟩
    have HB := Lib.hid (on HB.out h1)
    have T := Lib.hid (T.out.next h1)
    clear h1
    go_wp2_with fail
    refine (HN.out _).mono ?_
    rintro e w5 ⟨rfl, h1⟩
    have HB := Lib.hid (on HB.out h1)
    have T := Lib.hid (T.out.next h1)
    clear h1
    go_wp2_with fail
    refine (HP.out _).mono ?_
    rintro e w6 ⟨rfl, h1⟩
    have HB := Lib.hid (on HB.out h1)
    have T := Lib.hid (T.out.next h1)
    clear h1
    go_wp2_with fail
    refine (HG.out _).mono ?_
    rintro e w7 ⟨rfl, h1⟩
    have HB := Lib.hid (on HB.out h1)
    have T := Lib.hid (T.out.next h1)
    clear h1
    go_wp2_with fail
    refine (HG.out _).mono ?_
    rintro e w8 ⟨rfl, h1⟩
    have HB := Lib.hid (on HB.out h1)
    have T := Lib.hid (T.out.next h1)
    clear h1
    go_wp2_with fail
    refine (HP2.out _).mono ?_
    rintro e w9 ⟨rfl, h1⟩
    have HB := Lib.hid (on HB.out h1)
    have T := Lib.hid (T.out.next h1)
    clear h1
    go_wp2_with fail
    refine (HG.out _).mono ?_
    rintro e w10 ⟨rfl, h1⟩
    have HB := Lib.hid (on HB.out h1)
    have T := Lib.hid (T.out.next h1)
    clear h1
    go_wp2_with fail
    refine (HV.out _ T.out).mono ?_
    rintro e w11 ⟨⟨A1, c1, rfl, hy⟩, h1⟩
    have bx := box w11 (Obj.cells #[.bool nv, .slice A1 (nl mv) c1, .int .i64 xv] 29)
    have HB := Lib.hid (on HB.out (on h1 bx))
    have T := Lib.hid ((T.out.next h1).next bx)
    have Y1 := Lib.hid (hy.next bx)
    have K1 := Lib.hid (blk_new w11 (Obj.cells #[.bool nv, .slice A1 (nl mv) c1, .int .i64 xv] 29))
    clear hy h1 bx
    go_wp2_with fail
    refine (HW.out _ T.out).mono ?_
    rintro e w12 ⟨⟨A2, c2, rfl, hy⟩, h1⟩
    have bx := box w12 (Obj.cells #[.bool nw, .slice A2 (nl mw) c2, .int .i64 xw] 29)
    have HB := Lib.hid (on HB.out (on h1 bx))
    have T := Lib.hid ((T.out.next h1).next bx)
    have Y1 := Lib.hid ((Y1.out.next h1).next bx)
    have K1 := Lib.hid (blk_below (blk_below K1.out h1) bx)
    have Y2 := Lib.hid (hy.next bx)
    have K2 := Lib.hid (blk_new w12 (Obj.cells #[.bool nw, .slice A2 (nl mw) c2, .int .i64 xw] 29))
    clear hy h1 bx
    obtain ⟨za1, zb1, zc1⟩ := bx_cells K1.out
    obtain ⟨za2, zb2, zc2⟩ := bx_cells K2.out
    go_wp2_with fail
    clear za1 zb1 zc1 za2 zb2 zc2
    refine (C1.out _ _ _ _ _ Y1.out Y2.out).mono ?_
    rintro e w13 ⟨rfl, h1⟩
    have HB := Lib.hid (on HB.out h1)
    have T := Lib.hid (T.out.next h1)
    have Y1 := Lib.hid (Y1.out.next h1)
    have K1 := Lib.hid (blk_below K1.out h1)
    have Y2 := Lib.hid (Y2.out.next h1)
    have K2 := Lib.hid (blk_below K2.out h1)
    clear h1
    go_wp2_with fail
    refine (HFb.out _).mono ?_
    rintro e w14 ⟨rfl, h1⟩
    have HB := Lib.hid (on HB.out h1)
    have T := Lib.hid (T.out.next h1)
    have Y1 := Lib.hid (Y1.out.next h1)
    have K1 := Lib.hid (blk_below K1.out h1)
    have Y2 := Lib.hid (Y2.out.next h1)
    have K2 := Lib.hid (blk_below K2.out h1)
    clear h1
    cases fb
    · have g1 := G1.out.1 rfl
      clear G1 HU
      go_wp2_with fail
      go_ret
      exact ⟨rfl, HB.out⟩
    · have g2 := (G1.out.2 rfl).1
      have G3 := Lib.hid (G1.out.2 rfl).2
      have HU2 := Lib.hid (HU.out rfl)
      go_wp2_with fail
      refine (HU2.out _ T.out).mono ?_
      rintro e w15 ⟨⟨A3, c3, rfl, hy⟩, h1⟩
      have bx := box w15 (Obj.cells #[.bool nu, .slice A3 (nl mu) c3, .int .i64 xu] 29)
      have HB := Lib.hid (on HB.out (on h1 bx))
      have T := Lib.hid ((T.out.next h1).next bx)
      have Y1 := Lib.hid ((Y1.out.next h1).next bx)
      have K1 := Lib.hid (blk_below (blk_below K1.out h1) bx)
      have Y2 := Lib.hid ((Y2.out.next h1).next bx)
      have K2 := Lib.hid (blk_below (blk_below K2.out h1) bx)
      have Y3 := Lib.hid (hy.next bx)
      have K3 := Lib.hid (blk_new w15 (Obj.cells #[.bool nu, .slice A3 (nl mu) c3, .int .i64 xu] 29))
      clear hy h1 bx
      obtain ⟨za2, zb2, zc2⟩ := bx_cells K2.out
      obtain ⟨za3, zb3, zc3⟩ := bx_cells K3.out
      go_wp2_with fail
      clear za2 zb2 zc2 za3 zb3 zc3
      refine (C2.out _ _ _ _ _ Y2.out Y3.out).mono ?_
      rintro e w16 ⟨rfl, h1⟩
      have HB := Lib.hid (on HB.out h1)
      have T := Lib.hid (T.out.next h1)
      have Y1 := Lib.hid (Y1.out.next h1)
      have K1 := Lib.hid (blk_below K1.out h1)
      have Y2 := Lib.hid (Y2.out.next h1)
      have K2 := Lib.hid (blk_below K2.out h1)
      have Y3 := Lib.hid (Y3.out.next h1)
      have K3 := Lib.hid (blk_below K3.out h1)
      clear h1
      obtain ⟨za1, zb1, zc1⟩ := bx_cells K1.out
      obtain ⟨za3, zb3, zc3⟩ := bx_cells K3.out
      go_wp2_with fail
      clear za1 zb1 zc1 za3 zb3 zc3
      refine (C3.out _ _ _ _ _ Y1.out Y3.out).mono ?_
      rintro e w17 ⟨rfl, h1⟩
      have HB := Lib.hid (on HB.out h1)
      have T := Lib.hid (T.out.next h1)
      clear h1
      rcases G3.out with g3 | ⟨g3, g4⟩
      · go_wp2_with fail
        go_ret
        exact ⟨rfl, HB.out⟩
      · go_wp2_with fail
        go_ret
        exact ⟨rfl, HB.out⟩
set_option maxRecDepth 100000 in
theorem nb_no (f a o : Int) (p : Bool)
    (HF : ∀ w : World, Calls Tryd.prog 20 #[.int .i64 f, .int .u64 a] w fun e w' => e = .returned (.bool p) ∧ Below w.heap.size w w')
    (HFo : p = true → ∀ w : World, Calls Tryd.prog 20 #[.int .i64 f, .int .u64 o] w fun e w' => e = .returned (.bool false) ∧ Below w.heap.size w w') (W : World) (hT : Tab W) :
    Calls Tryd.prog 10 #[.int .i64 f, .int .u64 a, .int .u64 o] W (OnW W) := by
  have HF := Lib.hid HF
  have T := Lib.hid hT
  cases p
  · clear HFo hT
    go_enter Tryd.func10, Tryd.ntmps10
    go_wp2_with fail
    refine (BinAwake.awake_any _ T.out).mono ?_
    rintro e w1 ⟨rfl, h1⟩
    have HB := Lib.hid h1
    clear h1
    go_wp2_with fail
    refine (steps_any _).mono ?_
    rintro e w2 ⟨rfl, h1⟩
    have HB := Lib.hid (on HB.out h1)
    clear h1
    go_wp2_with fail
    refine (HF.out _).mono ?_
    rintro e w3 ⟨rfl, h1⟩
    have HB := Lib.hid (on HB.out h1)
    clear h1
    go_wp2_with fail
    go_ret
    exact ⟨rfl, HB.out⟩
  · have HX := Lib.hid (HFo rfl)
    clear hT HFo
    go_enter Tryd.func10, Tryd.ntmps10
    go_wp2_with fail
    refine (BinAwake.awake_any _ T.out).mono ?_
    rintro e w1 ⟨rfl, h1⟩
    have HB := Lib.hid h1
    clear h1
    go_wp2_with fail
    refine (steps_any _).mono ?_
    rintro e w2 ⟨rfl, h1⟩
    have HB := Lib.hid (on HB.out h1)
    clear h1
    go_wp2_with fail
    refine (HF.out _).mono ?_
    rintro e w3 ⟨rfl, h1⟩
    have HB := Lib.hid (on HB.out h1)
    clear h1
    go_wp2_with fail
    refine (HX.out _).mono ?_
    rintro e w4 ⟨rfl, h1⟩
    have HB := Lib.hid (on HB.out h1)
    clear h1
    go_wp2_with fail
    go_ret
    exact ⟨rfl, HB.out⟩
theorem nb_facts {f : Int} {F : Fmt} (h : Fm f F) (a : Nat) (h2 : a < 2 * F.sg) (hi : a % F.sg < F.inf) : ∃ b c d : Nat, nxt F a = (b, 0) ∧ prv F b = (c, 0) ∧ prv F (BinRj.flip F a) = (d, 0) ∧ (c = a ∨ (c ≠ a ∧ a % F.sg = 0 ∧ c = 0)) ∧ BinRj.flip F b = d ∧ b < 2 * F.sg ∧ b % F.sg ≤ F.inf ∧ rkN F b = rkN F a + 1 := by
  have key : ∀ sg inf : Nat, F.sg = sg → F.inf = inf → inf < sg → 0 < inf → ∃ b c d : Nat, nxt F a = (b, 0) ∧ prv F b = (c, 0) ∧ prv F (BinRj.flip F a) = (d, 0) ∧ (c = a ∨ (c ≠ a ∧ a % sg = 0 ∧ c = 0)) ∧ BinRj.flip F b = d ∧ b < 2 * sg ∧ b % sg ≤ inf ∧ rkN F b = rkN F a + 1 := by
    intro sg inf hsg hinf hlt hpos
    have rkp : ∀ x : Nat, x < sg → x ≤ inf → rk F x = ((x : Int), 0) ∧ rkN F x = (x : Int) := by
      intro x h1 h3
      have e : x % sg = x := Nat.mod_eq_of_lt h1
      unfold rk rkN
      rw [hsg, hinf, e, if_neg (by omega), if_neg (by omega), if_neg (by omega), if_neg (by omega)]
      exact ⟨rfl, rfl⟩
    have rkm : ∀ x : Nat, x ≤ inf → rk F (sg + x) = (-(x : Int), 0) ∧ rkN F (sg + x) = -(x : Int) := by
      intro x h1
      have e : (sg + x) % sg = x := by rw [Nat.add_mod_left, Nat.mod_eq_of_lt (by omega)]
      unfold rk rkN
      rw [hsg, hinf, e, if_neg (by omega), if_neg (by omega), if_pos (by omega), if_pos (by omega)]
      exact ⟨rfl, rfl⟩
    rw [hsg] at h2 hi
    rw [hinf] at hi
    by_cases c : sg ≤ a
    · obtain ⟨s, rfl⟩ : ∃ s, a = sg + s := ⟨a - sg, by omega⟩
      have e : (sg + s) % sg = s := by rw [Nat.add_mod_left, Nat.mod_eq_of_lt (by omega)]
      rw [e] at hi
      have ef : BinRj.flip F (sg + s) = s := by unfold BinRj.flip; rw [hsg, if_pos (by omega)]; omega
      by_cases s0 : s = 0
      · subst s0
        refine ⟨1, 0, sg + 1, ?_, ?_, ?_, .inr ⟨by omega, e, rfl⟩, ?_, by omega, ?_, ?_⟩
        · unfold nxt
          rw [(rkm 0 (by omega)).1, hinf, if_neg (by simp), if_neg (by simp <;> omega), if_neg (by simp)]; rfl
        · unfold prv
          rw [(rkp 1 (by omega) (by omega)).1, hinf, if_neg (by simp), if_neg (by simp <;> omega), if_pos (by simp)]; rfl
        · rw [ef]
          unfold prv
          rw [(rkp 0 (by omega) (by omega)).1, hinf, hsg, if_neg (by simp), if_neg (by simp <;> omega), if_neg (by simp)]; rfl
        · unfold BinRj.flip; rw [hsg, if_neg (by omega)]; omega
        · rw [Nat.mod_eq_of_lt (by omega)]; omega
        · rw [(rkm 0 (by omega)).2, (rkp 1 (by omega) (by omega)).2]; rfl
      · refine ⟨sg + (s - 1), sg + s, s - 1, ?_, ?_, ?_, .inl rfl, ?_, by omega, ?_, ?_⟩
        · unfold nxt
          rw [(rkm s (by omega)).1, hinf, hsg, if_neg (by simp), if_neg (by simp <;> omega), if_pos (by simp <;> omega)]
          exact congrArg (fun z => (sg + z, (0 : Int))) (by simp <;> omega)
        · unfold prv
          rw [(rkm (s - 1) (by omega)).1, hinf, hsg, if_neg (by simp), if_neg (by simp <;> omega), if_neg (by simp)]
          exact congrArg (fun z => (sg + z, (0 : Int))) (by simp <;> omega)
        · rw [ef]
          unfold prv
          rw [(rkp s (by omega) (by omega)).1, hinf, if_neg (by simp), if_neg (by simp <;> omega), if_pos (by simp <;> omega)]
          exact congrArg (fun z => (z, (0 : Int))) (by simp <;> omega)
        · unfold BinRj.flip; rw [hsg, if_pos (by omega)]; omega
        · rw [Nat.add_mod_left, Nat.mod_eq_of_lt (by omega)]; omega
        · rw [(rkm s (by omega)).2, (rkm (s - 1) (by omega)).2]; omega
    · have e : a % sg = a := Nat.mod_eq_of_lt (by omega)
      rw [e] at hi
      have ef : BinRj.flip F a = sg + a := by unfold BinRj.flip; rw [hsg, if_neg (by omega)]; omega
      refine ⟨a + 1, a, sg + (a + 1), ?_, ?_, ?_, .inl rfl, ?_, by omega, ?_, ?_⟩
      · unfold nxt
        rw [(rkp a (by omega) (by omega)).1, hinf, if_neg (by simp), if_neg (by simp <;> omega), if_neg (by simp)]
        exact congrArg (fun z => (z, (0 : Int))) (by simp <;> omega)
      · unfold prv
        rw [(rkp (a + 1) (by omega) (by omega)).1, hinf, if_neg (by simp), if_neg (by simp <;> omega), if_pos (by simp <;> omega)]
        exact congrArg (fun z => (z, (0 : Int))) (by simp)
      · rw [ef]
        unfold prv
        rw [(rkm a (by omega)).1, hinf, hsg, if_neg (by simp), if_neg (by simp <;> omega), if_neg (by simp)]
        exact congrArg (fun z => (sg + z, (0 : Int))) (by simp <;> omega)
      · unfold BinRj.flip; rw [hsg, if_neg (by omega)]; omega
      · rw [Nat.mod_eq_of_lt (by omega)]; omega
      · rw [(rkp a (by omega) (by omega)).2, (rkp (a + 1) (by omega) (by omega)).2]; omega
  rcases h with ⟨_, rfl⟩ | ⟨_, rfl⟩
  · exact key 2147483648 2139095040 rfl rfl (by decide) (by decide)
  · exact key 9223372036854775808 9218868437227405312 rfl rfl (by decide) (by decide)
theorem rk_top {F : Fmt} (b : Nat) (hi : b % F.sg < F.inf) : rkN F b < F.inf := by
  unfold rkN
  split <;> omega
theorem sgn_nn {z : Int} : 0 ≤ sgn z ↔ 0 ≤ z := by unfold sgn; (repeat' split) <;> omega
theorem sgn_neg {z : Int} : sgn z < 0 ↔ z < 0 := by unfold sgn; (repeat' split) <;> omega
theorem walk_any (f a o : Int) (W : World) (_wf : (Lit.int .i64 f).wf = true) (wa : (Lit.int .u64 a).wf = true) (wo : (Lit.int .u64 o).wf = true) (hT : Tab W) : Calls Tryd.prog 10 #[.int .i64 f, .int .u64 a, .int .u64 o] W (OnW W) := by
  obtain ⟨a, rfl, ha⟩ := wf_u64' wa
  obtain ⟨o, rfl, ho⟩ := wf_u64' wo
  rcases fin_or f a ha with ⟨F, h, h2, hi, HF⟩ | ⟨er, s0, s1, s2, s3, h0, hE, HF⟩
  · rcases fin_or f o ho with ⟨F', h', h2', hi', HFo⟩ | ⟨er, s0, s1, s2, s3, h0, hE, HFo⟩
    · have eF : F' = F := by
        rcases h with ⟨e, rfl⟩ | ⟨e, rfl⟩ <;> rcases h' with ⟨e', rfl⟩ | ⟨e', rfl⟩ <;> first | rfl | (exfalso; omega)
      subst eF
      obtain ⟨b, c, d, e1, e2, e3, e4, e5, e6, e7, e8⟩ := nb_facts h a h2 hi
      have sz : 2 * F'.sg ≤ 18446744073709551616 := by rcases h with ⟨_, rfl⟩ | ⟨_, rfl⟩ <;> decide
      have sp : 0 < F'.sg := by rcases h with ⟨_, rfl⟩ | ⟨_, rfl⟩ <;> decide
      have n1 : nextF f a = (b, 0) := by unfold nextF; rw [h.on]; exact e1
      have p1 : prevF f b = (c, 0) := by unfold prevF; rw [h.on]; exact e2
      have p2 : prevF f (BinRj.flip F' a) = (d, 0) := by unfold prevF; rw [h.on]; exact e3
      obtain ⟨f1, f2, f3⟩ := flip_facts h h2
      have k0 := vcm h a o
      have k1 := vcm h o b
      have k2 := vcm h a b
      have t1 := rk_top o hi'
      refine nb_fin f (a : Int) (o : Int) (b : Int) (c : Int) (d : Int) ((BinRj.flip F' a : Nat) : Int) ((F'.sg : Nat) : Int) _ _ _ (vexp F' a) (vexp F' o) (vexp F' b) (vneg F' a) (vneg F' o) (vneg F' b) (decide (b < 2 * F'.sg ∧ b % F'.sg < F'.inf)) (vman F' a) (vman F' o) (vman F' b)
        HF HFo (fun w => fin_law h b (by omega) w) (fun w => sign_call h w)
        (fun w => by have := Next_any f a ha w; rw [n1] at this; exact this)
        (fun w => by have := Prev_any f b (by omega) w; rw [p1] at this; exact this)
        (fun w => by have := Prev_any f (BinRj.flip F' a) (by omega) w; rw [p2] at this; exact this)
        ?_ (by omega) (xor_sg h h2 ha) (by rw [xor_sg h e6 (by omega), e5])
        (fun w hT => Value_v h a h2 hi w hT) (fun w hT => Value_v h o h2' hi' w hT) (fun e w hT => Value_v h b e6 (of_decide_eq_true e).2 w hT) k0 k1 k2 ?_ ?_ W hT
      · rcases e4 with e | ⟨q1, q2, q3⟩
        · exact .inl (by rw [e])
        · refine .inr ⟨by simp <;> omega, ?_, by rw [q3]; rfl⟩
          rw [← Int.ofNat_tmod, q2]; rfl
      · intro e
        have e := of_decide_eq_false e
        have hb : b % F'.sg = F'.inf := by
          by_cases c : b % F'.sg < F'.inf
          · exact absurd ⟨e6, c⟩ e
          · omega
        apply decide_eq_true
        rw [sgn_nn]
        have hr : rkN F' b = F'.inf ∨ rkN F' b = -(F'.inf : Int) := by
          unfold rkN
          rw [hb]
          split
          · exact .inr rfl
          · exact .inl rfl
        have hr2 : -(F'.inf : Int) < rkN F' a := by
          unfold rkN
          split <;> omega
        omega
      · intro _
        refine ⟨decide_eq_true (sgn_neg.2 (by omega)), ?_⟩
        by_cases c1 : 0 ≤ sgn (rkN F' a - rkN F' o)
        · exact .inl (decide_eq_true c1)
        · refine .inr ⟨decide_eq_false c1, decide_eq_true (sgn_nn.2 ?_)⟩
          rw [sgn_nn] at c1
          omega
    · exact nb_no f a o true HF (fun _ => HFo) W hT
  · exact nb_no f a o false HF (fun e => by cases e) W hT
end Go.Proofs.YthpnmkclboennaaDoor.BinaryNeighboursW
