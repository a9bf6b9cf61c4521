/- The walk of the law BinaryMids: it returns true, and the world has at most new blocks. Condition: the script reads as calls; math/bits' table is laid. -/
import Derived.Test.YthpnmkclboennaaDoorKBinaryMidsBinS2
namespace Go.Proofs.YthpnmkclboennaaDoor.BinaryMidsW
open Go.RowKit Go.Proofs.YthpnmkclboennaaDoorW.PrintWords Go.Proofs.YthpnmkclboennaaDoorW.PrintMore Go.Proofs.YthpnmkclboennaaDoorW.PrintLast Go.Proofs.YthpnmkclboennaaDoor.Num Go.Proofs.YthpnmkclboennaaDoor.PLib Go.Proofs.YthpnmkclboennaaDoor.Ref Go.Proofs.YthpnmkclboennaaDoor.BinLaw Go.Proofs.YthpnmkclboennaaDoor.BinA Go.Proofs.YthpnmkclboennaaDoor.BinO2 Go.Proofs.YthpnmkclboennaaDoor.BinF Go.Proofs.YthpnmkclboennaaDoor.BinW Go.Proofs.YthpnmkclboennaaDoor.BinTab Go.Proofs.YthpnmkclboennaaDoor.BinM Go.Proofs.YthpnmkclboennaaDoor.BinM2 Go.Proofs.YthpnmkclboennaaDoor.BinV1 Go.Proofs.YthpnmkclboennaaDoor.BinAll Go.Proofs.YthpnmkclboennaaDoor.BinS Go.Proofs.YthpnmkclboennaaDoor.BinS2
theorem mid_at (w : World) (hT : Tab w) : Calls Tryd.prog 14 #[.int .i64 64, .int .u64 9223372036854775808] w (DyE true [1] (-1075) 0 w) := by
  have h := (Mid_ok (f := 64) (F := fD) (.inr ⟨rfl, rfl⟩) 9223372036854775808 (by decide) (by decide) w hT).mono fun _ _ x => dye x
  have e1 : (decide (fD.sg ≤ 9223372036854775808) && decide (2 * mgF fD (9223372036854775808 % fD.sg) + 1 ≠ 0)) = true := by decide +kernel
  have e2 : dyl (2 * mgF fD (9223372036854775808 % fD.sg) + 1) = [1] := by decide +kernel
  have e3 : dyx (2 * mgF fD (9223372036854775808 % fD.sg) + 1) (xpF fD (9223372036854775808 % fD.sg) - 1) = -1075 := by decide +kernel
  rw [e1, e2, e3] at h
  exact h
theorem same_new (z : Int) (m : Nat) (hz : (m : Int) = z) (A : Option Addr) (c : Nat) (w : World) (h : DyL w A c [z]) :
    Calls Tryd.prog 31 #[.slice A 1 c, .slice (some ⟨w.heap.size, 0, none⟩) 1 1] (w.alloc (Obj.cells #[.int .u64 z] 23)) (OnW (w.alloc (Obj.cells #[.int .u64 z] 23))) := by
  subst hz
  obtain ⟨k, hk⟩ := (same_ev [(m : Int)] (by simp)).rounds
  have h2 := h.next (box w (Obj.cells #[.int .u64 (m : Int)] 23))
  have a1 : At1 (w.alloc (Obj.cells #[.int .u64 (m : Int)] 23)) w.heap.size 0 m := ⟨by simp⟩
  exact (gnomonref01_Same.calls k A c [(m : Int)] (some ⟨w.heap.size, 0, none⟩) 1 [(m : Int)] true _ h2.row h2.cap (one_C a1) (Nat.le_refl _) hk).mono fun _ _ ⟨e, d⟩ => ⟨e, d.below⟩
set_option maxRecDepth 100000 in
theorem walk_any (a : Option Addr) (len cap : Nat) (W : World) (hs : IsOps W a len) (hn : len < 9000000000000000000) (hT : Tab W) : Calls Tryd.prog 8 #[.slice a len cap] W (OnW W) := by
  have HS := Lib.hid (And.intro hs hn)
  have T := Lib.hid hT
  clear hs hT hn
  go_enter Tryd.func8, Tryd.ntmps8
  go_wp2_with fail
  refine (mid_at _ T.out).mono ?_
  rintro e w1 ⟨⟨A, c, rfl, hA⟩, h1⟩
  simp only [List.length_cons, List.length_nil, Nat.zero_add]
  have bx := box w1 (Obj.cells #[.bool true, .slice A 1 c, .int .i64 (-1075)] 29)
  have HA := Lib.hid (hA.next bx)
  have HB := Lib.hid (on h1 bx)
  have T := Lib.hid ((T.out.next h1).next bx)
  clear h1 hA bx
  go_wp2_with fail
  have hgz : (w1.alloc (Obj.cells #[.bool true, .slice A 1 c, .int .i64 (-1075)] 29)).heap.size = w1.heap.size + 1 := by simp
  have SN := same_new 1 1 rfl A c _ HA.out
  rw [hgz] at SN
  refine SN.mono ?_
  rintro e w2 ⟨rfl, h2⟩
  have bx := box (w1.alloc (Obj.cells #[.bool true, .slice A 1 c, .int .i64 (-1075)] 29)) (Obj.cells #[.int .u64 1] 23)
  have by' := box w2 (Obj.cells #[.int .i64 8] 3)
  have HB := Lib.hid (on HB.out (on bx (on h2 by')))
  have T := Lib.hid (((T.out.next bx).next h2).next by')
  clear h2 bx by' SN hgz
  go_wp2_with fail
  have hk : ∀ j, j < 1 → (w2.alloc (Obj.cells #[.int .i64 8] 3)).cell? ⟨w2.heap.size, j, none⟩ = some (.int .i64 8) := by
    intro j hj
    obtain rfl : j = 0 := by omega
    simp
  refine (all_any Tab (fun _ _ h d => h.next d) a len cap w2.heap.size 1 1 (fun _ => 8) W _ HS.out.1 HB.out T.out HS.out.2 (by decide) (by decide) hk (fun _ _ => plays_8)).mono ?_
  rintro e w3 ⟨rfl, h3⟩
  have HB := Lib.hid (on HB.out h3)
  clear hk h3
  go_wp2_with fail
  go_ret
  exact ⟨rfl, HB.out⟩
end Go.Proofs.YthpnmkclboennaaDoor.BinaryMidsW
