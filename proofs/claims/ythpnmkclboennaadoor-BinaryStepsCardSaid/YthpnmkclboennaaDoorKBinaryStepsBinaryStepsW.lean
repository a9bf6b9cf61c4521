/- The walk of the law BinarySteps: it returns true, and the world has at most new blocks. Condition: the script reads as calls. -/
import Derived.Test.YthpnmkclboennaaDoorKBinaryStepsBinarySteps0W
namespace Go.Proofs.YthpnmkclboennaaDoor.BinaryStepsW
open Go.RowKit Go.Proofs.YthpnmkclboennaaDoorW.PrintWords Go.Proofs.YthpnmkclboennaaDoorW.PrintLast Go.Proofs.YthpnmkclboennaaDoor.BinLaw Go.Proofs.YthpnmkclboennaaDoor.BinA Go.Proofs.YthpnmkclboennaaDoor.BinAll Go.Proofs.YthpnmkclboennaaDoor.BinarySteps0W
def Ks (j : Nat) : Int := if j = 0 then 6 else if j = 1 then 7 else if j = 2 then 9 else 10
theorem walk_any (a : Option Addr) (len cap : Nat) (W : World) (hs : IsOps W a len) (hn : len < 9000000000000000000) : Calls Tryd.prog 7 #[.slice a len cap] W (OnW W) := by
  have HS := Lib.hid hs
  clear hs
  go_enter Tryd.func7, Tryd.ntmps7
  go_wp2_with fail
  refine (steps_any _).mono ?_
  rintro e w1 ⟨rfl, h1⟩
  have HB := Lib.hid (on h1 (box w1 (Obj.cells #[.int .i64 6, .int .i64 7, .int .i64 9, .int .i64 10] 3)))
  clear h1
  go_wp2_with fail
  have hk : ∀ j, j < 4 → (w1.alloc (Obj.cells #[.int .i64 6, .int .i64 7, .int .i64 9, .int .i64 10] 3)).cell? ⟨w1.heap.size, j, none⟩ = some (.int .i64 (Ks j)) := by
    intro j hj
    rcases j with _ | _ | _ | _ | j
    · simp [Ks]
    · simp [Ks]
    · simp [Ks]
    · simp [Ks]
    · omega
  have hp : ∀ j, j < 4 → PlaysOk (fun _ => True) (Ks j) := by
    intro j hj
    rcases j with _ | _ | _ | _ | j
    · exact plays_6 _
    · exact plays_7 _
    · exact plays_9 _
    · exact plays_10 _
    · omega
  refine (all_any (fun _ => True) (fun _ _ _ _ => trivial) a len cap w1.heap.size 4 4 Ks W _ HS.out HB.out trivial hn (by decide) (by decide) hk hp).mono ?_
  rintro e w2 ⟨rfl, h2⟩
  have HB := Lib.hid (on HB.out h2)
  clear hk hp h2
  go_wp2_with fail
  go_ret
  exact ⟨rfl, HB.out⟩
end Go.Proofs.YthpnmkclboennaaDoor.BinaryStepsW
