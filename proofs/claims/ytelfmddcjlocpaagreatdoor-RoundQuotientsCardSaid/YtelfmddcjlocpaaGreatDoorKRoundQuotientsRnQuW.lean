/- What the law's plays answers of Quotient and Root. Plain Lean over the functions. Condition: words. The walk of the law RoundQuotients: it returns true, and the world has at most new blocks. Conditions: the script reads as calls; math/bits' table. -/
import Derived.Test.YtelfmddcjlocpaaGreatDoorKRoundQuotientsRnQ
import Derived.Test.YtelfmddcjlocpaaGreatDoorKRoundQuotientsSzR
import Derived.Test.YtelfmddcjlocpaaGreatDoorKRoundQuotientsPxP0
import Derived.Test.YtelfmddcjlocpaaGreatDoorKRoundQuotientsPxQ0
import Derived.Test.YtelfmddcjlocpaaGreatDoorKRoundQuotientsPxV0
section
set_option linter.unusedVariables false
namespace Go.Proofs.YtelfmddcjlocpaaGreatDoor.RnPq
open Go.RowKit Go.Proofs.YtelfmddcjlocpaaGreatDoorW.PrintWords Go.Proofs.YtelfmddcjlocpaaGreatDoorW.PrintMore Go.Proofs.YtelfmddcjlocpaaGreatDoor.Num Go.Proofs.YtelfmddcjlocpaaGreatDoor.PLib Go.Proofs.YtelfmddcjlocpaaGreatDoor.Ref Go.Proofs.YtelfmddcjlocpaaGreatDoor.GTh Go.Proofs.YtelfmddcjlocpaaGreatDoor.Given Go.Proofs.YtelfmddcjlocpaaGreatDoor.RnAll Go.Proofs.YtelfmddcjlocpaaGreatDoor.RnL Go.Proofs.YtelfmddcjlocpaaGreatDoor.RnN Go.Proofs.YtelfmddcjlocpaaGreatDoor.RnQ Go.Proofs.YtelfmddcjlocpaaGreatDoor.RnP
theorem plays4_ev (t : El) (w : World) (ok : Ok w t) (h : t.kd = 4) : Ev (fun k => gnomonlaw08_plays.f k t.kd t.fm t.na t.la t.ea t.nb t.lb t.eb (t.wd : Int)) true := by
 obtain ⟨r, e, e1, e2⟩ := rn_quotient t.fm t.na t.nb t.la t.lb ok.wa ok.wb t.ea t.eb
 unfold gnomonlaw08_plays.f
 refine Ev.bind (rn_ev (law_twin ok)) (Ev.congr (fun k => if_neg (by omega)) (Ev.congr (fun k => if_neg (by omega)) (Ev.congr (fun k => if_neg (by omega)) (Ev.congr (fun k => if_pos h) (Ev.bind e1 (Ev.bind e2 (Ev.congr (fun k => if_pos rfl) ?_)))))))
 rw [beq_self_eq_true]; exact Ev.now _
theorem plays5_ev (t : El) (w : World) (ok : Ok w t) (h : t.kd = 5) : Ev (fun k => gnomonlaw08_plays.f k t.kd t.fm t.na t.la t.ea t.nb t.lb t.eb (t.wd : Int)) true := by
 obtain ⟨r, e, e1, e2⟩ := rn_root t.fm t.na t.la ok.wa t.ea
 unfold gnomonlaw08_plays.f
 refine Ev.bind (rn_ev (law_twin ok)) (Ev.congr (fun k => if_neg (by omega)) (Ev.congr (fun k => if_neg (by omega)) (Ev.congr (fun k => if_neg (by omega)) (Ev.congr (fun k => if_neg (by omega)) (Ev.congr (fun k => if_pos h) (Ev.bind e1 (Ev.bind e2 (Ev.congr (fun k => if_pos rfl) ?_))))))))
 rw [beq_self_eq_true]; exact Ev.now _
theorem num_a : Ev (fun k => gnomonlaw08_num.f k 1 1) (false, [1], 1) := Ev.of (fun k => gnomonlaw08_num.mono _ _ k) (k := 200) (by decide +kernel)
theorem num_b : Ev (fun k => gnomonlaw08_num.f k (-3) 0) (true, [3], 0) := Ev.of (fun k => gnomonlaw08_num.mono _ _ k) (k := 200) (by decide +kernel)
theorem quo_a : Ev (fun k => round_Quotient.f k 64 false [1] 1 true [3] 0) (13827552055903212885, 0) := Ev.of (fun k => round_Quotient.mono _ _ _ _ _ _ _ k) (k := 200) (by decide +kernel)
theorem root_a : Ev (fun k => round_Root.f k 32 false [1] 1) (1068827891, 0) := Ev.of (fun k => round_Root.mono _ _ _ _ k) (k := 200) (by decide +kernel)
end Go.Proofs.YtelfmddcjlocpaaGreatDoor.RnPq
end
section
namespace Go.Proofs.YtelfmddcjlocpaaGreatDoor.RnQuW
open Go Go.RowKit Go.Proofs.YtelfmddcjlocpaaGreatDoorW.PrintWords Go.Proofs.YtelfmddcjlocpaaGreatDoorW.PrintMore Go.Proofs.YtelfmddcjlocpaaGreatDoorW.PrintLast Go.Proofs.YtelfmddcjlocpaaGreatDoor.GBase Go.Proofs.YtelfmddcjlocpaaGreatDoor.RnAll Go.Proofs.YtelfmddcjlocpaaGreatDoor.Px Go.Proofs.YtelfmddcjlocpaaGreatDoor.PLib Go.Proofs.YtelfmddcjlocpaaGreatDoor.RnPq Go.Proofs.YtelfmddcjlocpaaGreatDoor.RnScrW
def DyV (w : World) (n : Bool) (l : List Int) (x : Int) (v : Value) : Prop := RepV w N0 none' (.ag [.b n, .sl .u64 l, .i .i64 x]) v
theorem DyV.next {w w' : World} {n : Bool} {l : List Int} {x : Int} {v : Value} (h : DyV w n l x v) (d : Below w.heap.size w w') : DyV w' n l x v := RnAll.next d h
theorem num_run {k : Nat} {a b : Int} {n : Bool} {l : List Int} {x : Int} (h : gnomonlaw08_num.f k a b = some (n, l, x)) {w : World} (gw : Gw w) : Calls Tryz.prog 12 #[.int .i64 a, .int .i64 b] w fun e w' => ∃ v, e = .returned v ∧ DyV w' n l x v ∧ Below w.heap.size w w' :=
 run_r (gnomonlaw08_num.c h) gw (.cons rfl (.cons rfl .nil))
theorem quo_run {w : World} (gw : Gw w) {u v : Value} (h : DyV w false [1] 1 u) (h' : DyV w true [3] 0 v) : Calls Tryz.prog 11 #[.int .i64 64, u, v] w fun e w' => e = .returned (.tuple #[.int .u64 13827552055903212885, .int .i64 0]) ∧ Below w.heap.size w w' := by
 obtain ⟨k, hk⟩ := quo_a.rounds
 exact (run_r (round_Quotient.c hk) gw (.cons rfl (.cons h (.cons h' .nil)))).mono fun e w' ⟨v, he, hr, hd⟩ => by obtain rfl := tup2 hr; exact ⟨he, hd⟩
theorem root_run {w : World} (gw : Gw w) {u : Value} (h : DyV w false [1] 1 u) : Calls Tryz.prog 23 #[.int .i64 32, u] w fun e w' => e = .returned (.tuple #[.int .u64 1068827891, .int .i64 0]) ∧ Below w.heap.size w w' := by
 obtain ⟨k, hk⟩ := root_a.rounds
 exact (run_r (round_Root.c hk) gw (.cons rfl (.cons h .nil))).mono fun e w' ⟨v, he, hr, hd⟩ => by obtain rfl := tup2 hr; exact ⟨he, hd⟩
theorem plays_45 : PlaysOk 4 5 := by
 intro t w gw ok h1 h2
 by_cases c : t.kd = 4
 ·exact plays_at (kd := 4) (fun t w ok e => plays4_ev t w ok e) t w gw ok (by omega) (by omega)
 ·exact plays_at (kd := 5) (fun t w ok e => plays5_ev t w ok e) t w gw ok (by omega) (by omega)
structure ST (W w : World) : Prop where mk :: (gw : Gw w) (below : Below W.heap.size W w)
theorem ST.next {W w w' : World} (h : ST W w) (d : Below w.heap.size w w') : ST W w' := ⟨Gw_next _ _ h.gw d, on h.below d⟩
set_option maxHeartbeats 1000000 in
theorem quotients_any (a : Option Addr) (len cap : Nat) (W : World) (hs : IsOps W a len) (hn : len < 9000000000000000000) (gw : Gw W) : Calls Tryz.prog 8 #[.slice a len cap] W (OnW W) := by
 have HS := Lib.hid hs
 have HT : Hid (ST W W) := Lib.hid ⟨gw, Below.refl _ _⟩
 clear hs gw
 obtain ⟨k1, e1⟩ := num_a.rounds
 obtain ⟨k2, e2⟩ := num_b.rounds
 go_enter Tryz.func8, Tryz.ntmps8
 go_wp2_with fail
 refine (num_run e1 HT.out.gw).mono ?_
 rintro e w1 ⟨u, rfl, r1, hd⟩
 have HT := Lib.hid (HT.out.next hd)
 have U := Lib.hid r1
 clear hd r1
 go_wp2_with fail
 refine (num_run e2 HT.out.gw).mono ?_
 rintro e w2 ⟨v, rfl, r1, hd⟩
 have HT := Lib.hid (HT.out.next hd)
 have U := Lib.hid (U.out.next hd)
 have V := Lib.hid r1
 clear hd r1
 go_wp2_with fail
 refine (quo_run HT.out.gw U.out V.out).mono ?_
 rintro e w3 ⟨rfl, hd⟩
 have HT := Lib.hid (HT.out.next hd)
 clear hd U V
 go_wp2_with fail
 refine (num_run e1 HT.out.gw).mono ?_
 rintro e w4 ⟨u2, rfl, r1, hd⟩
 have HT := Lib.hid (HT.out.next hd)
 have U := Lib.hid r1
 clear hd r1
 go_wp2_with fail
 refine (root_run HT.out.gw U.out).mono ?_
 rintro e w5 ⟨rfl, hd⟩
 have HT := Lib.hid (HT.out.next hd)
 clear hd U
 go_wp2_with fail
 refine (all_any a len cap 4 5 W _ HS.out HT.out.below HT.out.gw hn plays_45).mono ?_
 rintro e w6 ⟨rfl, hd⟩
 have HT := Lib.hid (HT.out.next hd)
 clear hd
 go_wp2_with fail
 go_ret
 exact ⟨rfl, HT.out.below⟩
end Go.Proofs.YtelfmddcjlocpaaGreatDoor.RnQuW
end
