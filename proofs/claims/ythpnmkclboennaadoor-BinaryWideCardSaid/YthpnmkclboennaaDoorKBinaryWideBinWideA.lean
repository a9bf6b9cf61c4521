/- The walk of the law BinaryWide: it returns true, and the world has at most new blocks. Condition: math/bits' table is laid. -/
import Derived.Test.YthpnmkclboennaaDoorKBinaryWideBinWL2
namespace Go.Proofs.YthpnmkclboennaaDoor.BinWideA
open Go.RowKit Go.Proofs.YthpnmkclboennaaDoorW.PrintWords Go.Proofs.YthpnmkclboennaaDoorW.PrintMore Go.Proofs.YthpnmkclboennaaDoorW.PrintLast Go.Proofs.YthpnmkclboennaaDoor.Num Go.Proofs.YthpnmkclboennaaDoor.Ref Go.Proofs.YthpnmkclboennaaDoor.BinLaw Go.Proofs.YthpnmkclboennaaDoor.BinA Go.Proofs.YthpnmkclboennaaDoor.BinO2 Go.Proofs.YthpnmkclboennaaDoor.BinP Go.Proofs.YthpnmkclboennaaDoor.BinF Go.Proofs.YthpnmkclboennaaDoor.BinG Go.Proofs.YthpnmkclboennaaDoor.BinW Go.Proofs.YthpnmkclboennaaDoor.BinW2 Go.Proofs.YthpnmkclboennaaDoor.BinTab Go.Proofs.YthpnmkclboennaaDoor.BinV1 Go.Proofs.YthpnmkclboennaaDoor.BinAll Go.Proofs.YthpnmkclboennaaDoor.BinS Go.Proofs.YthpnmkclboennaaDoor.BinS2 Go.Proofs.YthpnmkclboennaaDoor.BinJ4 Go.Proofs.YthpnmkclboennaaDoor.BinJ5 Go.Proofs.YthpnmkclboennaaDoor.BinWd Go.Proofs.YthpnmkclboennaaDoor.BinWL Go.Proofs.YthpnmkclboennaaDoor.BinWL2 Go.Proofs.YthpnmkclboennaaDoor.BinaryWidensW Go.Proofs.YthpnmkclboennaaDoor.BinAwake
theorem widen_call {A x : Nat} (hA : A < 4294967296) (h : wdF A = (x, 0)) (w : World) (hT : Tab w) : Calls Tryd.prog 19 #[.int .u64 A] w fun e w' => e = .returned (.tuple #[.int .u64 x, .int .i64 0]) ∧ Below w.heap.size w w' := by
  have := Widen_any A (by omega) w hT
  rw [h] at this
  exact this
theorem fin_call (A : Nat) (hA : A < 4294967296) (w : World) : Calls Tryd.prog 20 #[.int .i64 32, .int .u64 A] w fun e w' => e = .returned (.bool (decide (A % fS.sg < fS.inf))) ∧ Below w.heap.size w w' := by
  have e := finite_f hS A (by omega)
  have e2 : decide (A < 2 * fS.sg ∧ A % fS.sg < fS.inf) = decide (A % fS.sg < fS.inf) := decide_eq_decide.2 ⟨fun h => h.2, fun h => ⟨by show A < 2 * 2147483648; omega, h⟩⟩
  rw [e2] at e
  exact (PFin.gnomonlaw07_finite.calls _ _ _ w e).mono fun _ _ ⟨a, b⟩ => ⟨a, b.below⟩
structure Ent (a b : Nat) (A B x y : Nat) : Prop where mk :: (ha : (a : Int) % 4294967296 = (A : Int)) (hb : (b : Int) % 4294967296 = (B : Int)) (hA : A < 4294967296) (hB : B < 4294967296) (hx : wdF A = (x, 0)) (hy : wdF B = (y, 0))
set_option maxRecDepth 100000 in
set_option maxHeartbeats 1600000 in
theorem wide_classes (a b A B x y : Nat) (E : Ent a b A B x y) (hnf : ¬ (A % fS.sg < fS.inf ∧ B % fS.sg < fS.inf)) (c d : Int) (k4 k3 : Bool) (c4 : (c == 4) = k4) (d4 : (d == 4) = k4) (c3 : (c == 3) = k3) (d3 : (d == 3) = k3)
    (HC : ∀ w : World, Calls Tryd.prog 21 #[.int .i64 32, .int .u64 A] w fun e w' => e = .returned (.tuple #[.int .i64 c, .int .i64 0]) ∧ Below w.heap.size w w')
    (HD : ∀ w : World, Calls Tryd.prog 21 #[.int .i64 64, .int .u64 x] w fun e w' => e = .returned (.tuple #[.int .i64 d, .int .i64 0]) ∧ Below w.heap.size w w') (W : World) (hT : Tab W) :
    Calls Tryd.prog 4 #[.int .u64 (a : Int), .int .u64 (b : Int)] W (OnW W) := by
  have HC := Lib.hid HC
  have HD := Lib.hid HD
  have HX := Lib.hid (fun w hT => widen_call E.hA E.hx w hT)
  have HY := Lib.hid (fun w hT => widen_call E.hB E.hy w hT)
  have HF := Lib.hid (fun w => fin_call A E.hA w)
  have HG := Lib.hid (fun w => fin_call B E.hB w)
  have T := Lib.hid hT
  have q1 := E.ha
  have q2 := E.hb
  by_cases f1 : A % fS.sg < fS.inf
  · have f2 : ¬ B % fS.sg < fS.inf := fun h => hnf ⟨f1, h⟩
    rw [decide_eq_true f1] at HF
    rw [decide_eq_false f2] at HG
    clear E hnf hT f1 f2
    go_enter Tryd.func4, Tryd.ntmps4
    go_wp2_with fail
    refine (BinAwake.awake_any _ T.out).mono ?_
    rintro e w1 ⟨rfl, h1⟩
    have HB := Lib.hid h1
    have T := Lib.hid (T.out.next h1)
    clear h1
    go_wp2_with fail
    refine (HX.out _ T.out).mono ?_
    rintro e w2 ⟨rfl, h1⟩
    have HB := Lib.hid (on HB.out h1)
    have T := Lib.hid (T.out.next h1)
    clear h1
    go_wp2_with fail
    refine (HY.out _ T.out).mono ?_
    rintro e w3 ⟨rfl, h1⟩
    have HB := Lib.hid (on HB.out h1)
    clear h1 T
    go_wp2_with fail
    refine (HF.out _).mono ?_
    rintro e w4 ⟨rfl, h1⟩
    have HB := Lib.hid (on HB.out h1)
    clear h1
    go_wp2_with fail
    refine (HG.out _).mono ?_
    rintro e w5 ⟨rfl, h1⟩
    have HB := Lib.hid (on HB.out h1)
    clear h1
    go_wp2_with fail
    refine (HC.out _).mono ?_
    rintro e w6 ⟨rfl, h1⟩
    have HB := Lib.hid (on HB.out h1)
    clear h1
    go_wp2_with fail
    refine (HD.out _).mono ?_
    rintro e w7 ⟨rfl, h1⟩
    have HB := Lib.hid (on HB.out h1)
    clear h1
    go_wp2_with fail
    go_ret
    exact ⟨by simp, HB.out⟩
  · rw [decide_eq_false f1] at HF
    clear E hnf hT f1
    go_enter Tryd.func4, Tryd.ntmps4
    go_wp2_with fail
    refine (BinAwake.awake_any _ T.out).mono ?_
    rintro e w1 ⟨rfl, h1⟩
    have HB := Lib.hid h1
    have T := Lib.hid (T.out.next h1)
    clear h1
    go_wp2_with fail
    refine (HX.out _ T.out).mono ?_
    rintro e w2 ⟨rfl, h1⟩
    have HB := Lib.hid (on HB.out h1)
    have T := Lib.hid (T.out.next h1)
    clear h1
    go_wp2_with fail
    refine (HY.out _ T.out).mono ?_
    rintro e w3 ⟨rfl, h1⟩
    have HB := Lib.hid (on HB.out h1)
    clear h1 T
    go_wp2_with fail
    refine (HF.out _).mono ?_
    rintro e w4 ⟨rfl, h1⟩
    have HB := Lib.hid (on HB.out h1)
    clear h1
    go_wp2_with fail
    refine (HC.out _).mono ?_
    rintro e w6 ⟨rfl, h1⟩
    have HB := Lib.hid (on HB.out h1)
    clear h1
    go_wp2_with fail
    refine (HD.out _).mono ?_
    rintro e w7 ⟨rfl, h1⟩
    have HB := Lib.hid (on HB.out h1)
    clear h1
    go_wp2_with fail
    go_ret
    exact ⟨by simp, HB.out⟩
end Go.Proofs.YthpnmkclboennaaDoor.BinWideA
