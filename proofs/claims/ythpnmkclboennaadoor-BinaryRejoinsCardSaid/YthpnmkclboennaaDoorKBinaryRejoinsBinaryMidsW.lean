/- The program's Widen in one row. Conditions: words below 2^64; math/bits' table is laid. The walk of the law BinaryMids: it returns true, and the world has at most new blocks. Condition: the script reads as calls; math/bits' table is laid. -/
import Derived.Test.YthpnmkclboennaaDoorKBinaryRejoinsBinJ4
import Derived.Test.YthpnmkclboennaaDoorKBinaryRejoinsPLibx0
import Derived.Test.YthpnmkclboennaaDoorKBinaryRejoinsPLibx2
import Derived.Test.YthpnmkclboennaaDoorKBinaryRejoinsPLibx3
import Derived.Test.YthpnmkclboennaaDoorKBinaryRejoinsPLibx9
import Derived.Deep.RegionHeld3
import Derived.Test.YthpnmkclboennaaDoorKBinaryRejoinsPLibx8
import Derived.Test.YthpnmkclboennaaDoorKBinaryRejoinsPLibx7
import Derived.Test.YthpnmkclboennaaDoorKBinaryRejoinsPNegx0
section
namespace Go.Proofs.YthpnmkclboennaaDoor.BinWd
open Go.RowKit Go.Proofs.YthpnmkclboennaaDoorW.PrintWords Go.Proofs.YthpnmkclboennaaDoorW.PrintMore Go.Proofs.YthpnmkclboennaaDoorW.PrintLast Go.Proofs.YthpnmkclboennaaDoor.Num Go.Proofs.YthpnmkclboennaaDoor.Ref Go.Proofs.YthpnmkclboennaaDoor.BinLaw Go.Proofs.YthpnmkclboennaaDoor.BinA Go.Proofs.YthpnmkclboennaaDoor.BinO2 Go.Proofs.YthpnmkclboennaaDoor.BinF Go.Proofs.YthpnmkclboennaaDoor.BinG Go.Proofs.YthpnmkclboennaaDoor.BinW Go.Proofs.YthpnmkclboennaaDoor.BinTab Go.Proofs.YthpnmkclboennaaDoor.BinM Go.Proofs.YthpnmkclboennaaDoor.BinLen Go.Proofs.YthpnmkclboennaaDoor.BinJ Go.Proofs.YthpnmkclboennaaDoor.BinJ4
theorem hS : Fm 32 fS := .inl ⟨rfl, rfl⟩
theorem hD : Fm 64 fD := .inr ⟨rfl, rfl⟩
end Go.Proofs.YthpnmkclboennaaDoor.BinWd
end
section
namespace Go.Proofs.YthpnmkclboennaaDoor.BinaryMidsW
open Go.RowKit Go.Proofs.YthpnmkclboennaaDoorW.PrintWords Go.Proofs.YthpnmkclboennaaDoorW.PrintMore Go.Proofs.YthpnmkclboennaaDoorW.PrintLast Go.Proofs.YthpnmkclboennaaDoor.Num Go.Proofs.YthpnmkclboennaaDoor.PLib Go.Proofs.YthpnmkclboennaaDoor.Ref Go.Proofs.YthpnmkclboennaaDoor.BinLaw Go.Proofs.YthpnmkclboennaaDoor.BinA Go.Proofs.YthpnmkclboennaaDoor.BinO2 Go.Proofs.YthpnmkclboennaaDoor.BinF Go.Proofs.YthpnmkclboennaaDoor.BinW Go.Proofs.YthpnmkclboennaaDoor.BinTab Go.Proofs.YthpnmkclboennaaDoor.BinM Go.Proofs.YthpnmkclboennaaDoor.BinM2 Go.Proofs.YthpnmkclboennaaDoor.BinV1 Go.Proofs.YthpnmkclboennaaDoor.BinAll Go.Proofs.YthpnmkclboennaaDoor.BinS Go.Proofs.YthpnmkclboennaaDoor.BinS2
theorem same_new (z : Int) (m : Nat) (hz : (m : Int) = z) (A : Option Addr) (c : Nat) (w : World) (h : DyL w A c [z]) :
    Calls Tryd.prog 31 #[.slice A 1 c, .slice (some ⟨w.heap.size, 0, none⟩) 1 1] (w.alloc (Obj.cells #[.int .u64 z] 23)) (OnW (w.alloc (Obj.cells #[.int .u64 z] 23))) := by
  subst hz
  obtain ⟨k, hk⟩ := (same_ev [(m : Int)] (by simp)).rounds
  have h2 := h.next (box w (Obj.cells #[.int .u64 (m : Int)] 23))
  have a1 : At1 (w.alloc (Obj.cells #[.int .u64 (m : Int)] 23)) w.heap.size 0 m := ⟨by simp⟩
  exact (gnomonref01_Same.calls k A c [(m : Int)] (some ⟨w.heap.size, 0, none⟩) 1 [(m : Int)] true _ h2.row h2.cap (one_C a1) (Nat.le_refl _) hk).mono fun _ _ ⟨e, d⟩ => ⟨e, d.below⟩
end Go.Proofs.YthpnmkclboennaaDoor.BinaryMidsW
end
