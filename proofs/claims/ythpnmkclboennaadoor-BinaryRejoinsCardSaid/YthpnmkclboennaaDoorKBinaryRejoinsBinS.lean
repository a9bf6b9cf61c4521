/- The law's same on two equal numbers; the plays of ClassOf, Quiet, Split, Value, Mid. Conditions: words below 2^64; math/bits' table is laid. -/
import Derived.Test.YthpnmkclboennaaDoorKBinaryRejoinsBinV1
import Derived.Test.YthpnmkclboennaaDoorKBinaryRejoinsBinT
import Derived.Test.YthpnmkclboennaaDoorKBinaryRejoinsPLibx7
import Derived.Test.YthpnmkclboennaaDoorKBinaryRejoinsPLibx0
import Derived.Test.YthpnmkclboennaaDoorKBinaryRejoinsPLibx3
import Derived.Test.YthpnmkclboennaaDoorKBinaryRejoinsPLibx2
import Derived.Test.YthpnmkclboennaaDoorKBinaryRejoinsPLibx9
namespace Go.Proofs.YthpnmkclboennaaDoor.BinS
open Go.RowKit Go.Proofs.YthpnmkclboennaaDoorW.PrintWords Go.Proofs.YthpnmkclboennaaDoorW.PrintMore Go.Proofs.YthpnmkclboennaaDoorW.PrintLast Go.Proofs.YthpnmkclboennaaDoor.Num Go.Proofs.YthpnmkclboennaaDoor.PLib Go.Proofs.YthpnmkclboennaaDoor.Ref Go.Proofs.YthpnmkclboennaaDoor.BinLaw Go.Proofs.YthpnmkclboennaaDoor.BinA Go.Proofs.YthpnmkclboennaaDoor.BinO2 Go.Proofs.YthpnmkclboennaaDoor.BinF Go.Proofs.YthpnmkclboennaaDoor.BinG Go.Proofs.YthpnmkclboennaaDoor.BinW Go.Proofs.YthpnmkclboennaaDoor.BinW2 Go.Proofs.YthpnmkclboennaaDoor.BinTab Go.Proofs.YthpnmkclboennaaDoor.BinM Go.Proofs.YthpnmkclboennaaDoor.BinM2 Go.Proofs.YthpnmkclboennaaDoor.BinV1 Go.Proofs.YthpnmkclboennaaDoor.BinAll
theorem same_l (l : List Int) (hl : l.length < 1099511627776) (d : Nat) : ∀ i : Nat, l.length - i = d → i ≤ l.length → Ev (fun k => gnomonref01_Same.l0 k l l (i : Int)) true := by
  induction d with
  | zero =>
    intro i hd hi
    exact Ev.step (f := fun _ => some true) (fun k => by rw [gnomonref01_Same.l0, if_neg (by omega)]) (Ev.now _)
  | succ d ih =>
    intro i hd hi
    refine Ev.step (f := fun k => gnomonref01_Same.l0 k l l ((i + 1 : Nat) : Int)) (fun k => ?_) (ih (i + 1) (by omega) (by omega))
    rw [gnomonref01_Same.l0, if_pos (by omega), if_pos (by omega), if_pos (by omega), if_pos rfl, w64 (by omega) (by omega)]
    rfl
theorem same_ev (l : List Int) (hl : l.length < 1099511627776) : Ev (fun k => gnomonref01_Same.f k l l) true := by
  unfold gnomonref01_Same.f
  exact Ev.congr (fun k => if_pos rfl) (same_l l hl _ 0 rfl (Nat.zero_le _))
structure DyL (w : World) (A : Option Addr) (c : Nat) (l : List Int) : Prop where mk :: (cap : l.length ≤ c) (row : Kd.C (Kd.int .u64) w A l.length l)
theorem DyL.next {w w' : World} {A : Option Addr} {c : Nat} {l : List Int} (h : DyL w A c l) (d : Below w.heap.size w w') : DyL w' A c l := ⟨h.cap, Kd.C_below h.row d⟩
set_option maxRecDepth 100000 in
theorem same_any {A A' : Option Addr} {c c' : Nat} (neg : Bool) (l : List Int) (x : Int) (w : World) (hl : l.length < 1000) (h : DyL w A c l) (h' : DyL w A' c' l) :
    Calls Tryd.prog 17 #[.agg #[.bool neg, .slice A l.length c, .int .i64 x], .agg #[.bool neg, .slice A' l.length c', .int .i64 x]] w (OnW w) := by
  obtain ⟨k, hk⟩ := (same_ev l (by omega)).rounds
  have bb := box w (Obj.cells #[.bool neg, .slice A l.length c, .int .i64 x] 29)
  have bc := box (w.alloc (Obj.cells #[.bool neg, .slice A l.length c, .int .i64 x] 29)) (Obj.cells #[.bool neg, .slice A' l.length c', .int .i64 x] 29)
  have HS := Lib.hid (gnomonref01_Same.calls k A c l A' c' l true _ ((h.next bb).next bc).row h.cap ((h'.next bb).next bc).row h'.cap hk)
  have HB := Lib.hid (on bb bc)
  have kb0 := Lib.hid (blk_below (blk_new w (Obj.cells #[.bool neg, .slice A l.length c, .int .i64 x] 29)) bc)
  have kb1 := Lib.hid (blk_new (w.alloc (Obj.cells #[.bool neg, .slice A l.length c, .int .i64 x] 29)) (Obj.cells #[.bool neg, .slice A' l.length c', .int .i64 x] 29))
  have hgz : (w.alloc (Obj.cells #[.bool neg, .slice A l.length c, .int .i64 x] 29)).heap.size = w.heap.size + 1 := by simp
  rw [hgz] at kb1
  clear h h' hk hl bb bc hgz
  go_enter Tryd.func17, Tryd.ntmps17
  go_wp2_with fail
  refine HS.out.mono ?_
  rintro e w1 ⟨rfl, hd⟩
  have h1 := hd.below
  have kz2 : w1.cell? ⟨w.heap.size, 2, none⟩ = some (.int .i64 x) := (blk_cell (blk_below kb0.out h1) 2).trans rfl
  have ky2 : w1.cell? ⟨w.heap.size + 1, 2, none⟩ = some (.int .i64 x) := (blk_cell (blk_below kb1.out h1) 2).trans rfl
  have HB := Lib.hid (on HB.out h1)
  clear hd h1
  go_wp2_with fail
  go_ret
  exact ⟨by simp, HB.out⟩
end Go.Proofs.YthpnmkclboennaaDoor.BinS
