/- The law's awake answers true: closed. Plain Lean over the functions. The walk of the law RoundNearests: it returns true, and the world has at most new blocks. Conditions: the script reads as calls; math/bits' table. -/
import Derived.Test.YtelfmddcjlocpaaGreatDoorKRoundNearestsPxBr
import Derived.Test.YtelfmddcjlocpaaGreatDoorKRoundNearestsPxQ0
import Derived.Test.YtelfmddcjlocpaaGreatDoorKRoundNearestsPRfzx0
section
namespace Go.Proofs.YtelfmddcjlocpaaGreatDoor.RnAw
open Go.RowKit Go.Proofs.YtelfmddcjlocpaaGreatDoorW.PrintWords Go.Proofs.YtelfmddcjlocpaaGreatDoorW.PrintMore Go.Proofs.YtelfmddcjlocpaaGreatDoor.PLib
theorem rn_awake : Ev (fun k => gnomonlaw08_awake.f k) true := Ev.of (fun k => gnomonlaw08_awake.mono k) (k := 200) (by decide +kernel)
end Go.Proofs.YtelfmddcjlocpaaGreatDoor.RnAw
end
section
namespace Go.Proofs.YtelfmddcjlocpaaGreatDoor.RnNeW
open Go Go.RowKit Go.Proofs.YtelfmddcjlocpaaGreatDoorW.PrintWords Go.Proofs.YtelfmddcjlocpaaGreatDoorW.PrintMore Go.Proofs.YtelfmddcjlocpaaGreatDoorW.PrintLast Go.Proofs.YtelfmddcjlocpaaGreatDoor.GBase Go.Proofs.YtelfmddcjlocpaaGreatDoor.RnAll Go.Proofs.YtelfmddcjlocpaaGreatDoor.Px Go.Proofs.YtelfmddcjlocpaaGreatDoor.PLib
theorem awake_run {w : World} (gw : Gw w) : Calls Tryz.prog 13 #[] w (OnW w) := by
 obtain ⟨k, hk⟩ := RnAw.rn_awake.rounds
 exact run_t (gnomonlaw08_awake.c hk) gw .nil
theorem nearests_any (a : Option Addr) (len cap : Nat) (W : World) (hs : IsOps W a len) (hn : len < 9000000000000000000) (gw : Gw W) : Calls Tryz.prog 6 #[.slice a len cap] W (OnW W) := by
 have HS := Lib.hid hs
 have HG := Lib.hid gw
 clear hs gw
 go_enter Tryz.func6, Tryz.ntmps6
 go_wp2_with fail
 refine (awake_run HG.out).mono ?_
 rintro e w1 ⟨rfl, h1⟩
 have HB := Lib.hid h1
 clear h1
 go_wp2_with fail
 refine (all_any a len cap 1 1 W _ HS.out HB.out (Gw_next _ _ HG.out HB.out) hn (RnScrW.plays_at fun t w ok e => RnP.plays1_ev t w ok e)).mono ?_
 rintro e w2 ⟨rfl, h2⟩
 have HB := Lib.hid (on HB.out h2)
 clear h2
 go_wp2_with fail
 go_ret
 exact ⟨rfl, HB.out⟩
end Go.Proofs.YtelfmddcjlocpaaGreatDoor.RnNeW
end
