import Derived.Test.YtelfmddcjlocpaaDoorKRoundDecidedPLibx0
import Derived.Test.YtelfmddcjlocpaaDoorKRoundDecidedPLibx3
import Derived.Test.YtelfmddcjlocpaaDoorKRoundDecidedPLibx8
import Derived.Test.YtelfmddcjlocpaaDoorKRoundDecidedPLibx10
import Derived.Test.YtelfmddcjlocpaaDoorKRoundDecidedPLibx12
import Derived.Test.YtelfmddcjlocpaaDoorKRoundDecidedPLibx18
namespace Go.Proofs.YtelfmddcjlocpaaDoor.PLib
open Go.RowKit Go.Proofs.YtelfmddcjlocpaaDoorW.PrintWords Go.Proofs.YtelfmddcjlocpaaDoorW.PrintLast Go.Proofs.YtelfmddcjlocpaaDoorW.PrintMore Go.Proofs.YtelfmddcjlocpaaDoor.Given Go.Proofs.YtelfmddcjlocpaaDoor.GTab
attribute [local go_sem] max2_int min2_int max_two min_two max_three min_three max_four min_four   -- for this text's walks alone
set_option linter.unusedVariables false
set_option linter.unusedSimpArgs false
mutual
def gnomonlaw08_RoundDecided.j0 : Nat → Int → Bool → Bool → List Int → Int → Bool → List Int → Int → Bool → List Int → Int → Option (Bool)
 | 0, _, _, _, _, _, _, _, _, _, _, _ => none
 | k + 1, x7, x41, x682000, x682001, x682002, x682003, x682004, x682005, x683000, x683001, x683002 => if x41 = true then (some false) else ((round_Decide.f k x7 x682000 x682001 x682002 x682003 x682004 x682005).bind fun bt698 => ((gnomonref05_DocForm.f k x682000 x682001 x682002).bind fun t701 => (if t701 = true then ((gnomonref05_DocForm.f k x682003 x682004 x682005).bind fun t702 => (gnomonlaw08_RoundDecided.j1 k x7 bt698.1 bt698.2.1 bt698.2.2 (!t702) x682000 x682001 x682002 x682003 x682004 x682005 x683000 x683001 x683002)) else (gnomonlaw08_RoundDecided.j1 k x7 bt698.1 bt698.2.1 bt698.2.2 true x682000 x682001 x682002 x682003 x682004 x682005 x683000 x683001 x683002))))
def gnomonlaw08_RoundDecided.j1 : Nat → Int → Int → Bool → Int → Bool → Bool → List Int → Int → Bool → List Int → Int → Bool → List Int → Int → Option (Bool)
 | 0, _, _, _, _, _, _, _, _, _, _, _, _, _, _ => none
 | k + 1, x7, x8, x9, x10, x58, x682000, x682001, x682002, x682003, x682004, x682005, x683000, x683001, x683002 => if x58 = true then (if x10 = 2 then (if x9 = true then (some false) else (some (x8 == 0))) else (some false)) else ((gnomonlaw08_at.f k x682000 x682001 x682002 x682003 x682004 x682005).bind fun t703 => (if t703 = 1 then (if x10 = 2 then (if x9 = true then (some false) else (some (x8 == 0))) else (some false)) else ((round_Nearest.f k x7 x682000 x682001 x682002).bind fun bt704 => ((round_Nearest.f k x7 x682003 x682004 x682005).bind fun bt706 => (if t703 > 1 then (gnomonlaw08_RoundDecided.j2 k x7 x8 x9 true x682000 x682001 x682002 x682003 x682004 x682005 x683000 x683001 x683002) else (if x10 = 0 then (if bt704.2 = 0 then (if bt706.2 = 0 then (if (x9 != (bt704.1 == bt706.1)) = true then (gnomonlaw08_RoundDecided.j2 k x7 x8 x9 true x682000 x682001 x682002 x682003 x682004 x682005 x683000 x683001 x683002) else (if x9 = true then (if x8 = bt704.1 then (gnomonlaw08_RoundDecided.j2 k x7 x8 x9 false x682000 x682001 x682002 x682003 x682004 x682005 x683000 x683001 x683002) else (gnomonlaw08_RoundDecided.j2 k x7 x8 x9 true x682000 x682001 x682002 x682003 x682004 x682005 x683000 x683001 x683002)) else (gnomonlaw08_RoundDecided.j2 k x7 x8 x9 (x8 != 0) x682000 x682001 x682002 x682003 x682004 x682005 x683000 x683001 x683002))) else (gnomonlaw08_RoundDecided.j2 k x7 x8 x9 true x682000 x682001 x682002 x682003 x682004 x682005 x683000 x683001 x683002)) else (gnomonlaw08_RoundDecided.j2 k x7 x8 x9 true x682000 x682001 x682002 x682003 x682004 x682005 x683000 x683001 x683002)) else (gnomonlaw08_RoundDecided.j2 k x7 x8 x9 true x682000 x682001 x682002 x682003 x682004 x682005 x683000 x683001 x683002)))))))
def gnomonlaw08_RoundDecided.j2 : Nat → Int → Int → Bool → Bool → Bool → List Int → Int → Bool → List Int → Int → Bool → List Int → Int → Option (Bool)
 | 0, _, _, _, _, _, _, _, _, _, _, _, _, _ => none
 | k + 1, x7, x8, x9, x136, x682000, x682001, x682002, x682003, x682004, x682005, x683000, x683001, x683002 => if x136 = true then (some false) else (if x9 = true then ((gnomonref05_DocForm.f k x683000 x683001 x683002).bind fun t708 => (if t708 = true then ((gnomonlaw08_at.f k x682000 x682001 x682002 x683000 x683001 x683002).bind fun t709 => (if t709 > 0 then (gnomonlaw08_RoundDecided.j3 k x7 x8 true x683000 x683001 x683002) else ((gnomonlaw08_at.f k x683000 x683001 x683002 x682003 x682004 x682005).bind fun t710 => (gnomonlaw08_RoundDecided.j3 k x7 x8 (decide (t710 > 0)) x683000 x683001 x683002)))) else (gnomonlaw08_RoundDecided.j3 k x7 x8 true x683000 x683001 x683002))) else (gnomonlaw08_RoundDecided.j3 k x7 x8 true x683000 x683001 x683002))
def gnomonlaw08_RoundDecided.j3 : Nat → Int → Int → Bool → Bool → List Int → Int → Option (Bool)
 | 0, _, _, _, _, _, _ => none
 | k + 1, x7, x8, x157, x683000, x683001, x683002 => if x157 = true then (some true) else ((round_Nearest.f k x7 x683000 x683001 x683002).bind fun bt711 => (if bt711.2 = 0 then (some (bt711.1 == x8)) else (some false)))
end
def gnomonlaw08_RoundDecided.f (k : Nat) (a0 : Bool) (a1_0 : Bool) (l1_1 : List Int) (a1_2 : Int) (a1_3 : Bool) (l1_4 : List Int) (a1_5 : Int) (a2_0 : Bool) (l2_1 : List Int) (a2_2 : Int) : Option (Bool) := (gnomonlaw08_format.f a0).bind fun t683 => ((gnomonlaw08_num.f k 1 0).bind fun bt684 => ((gnomonlaw08_num.f k 1 0).bind fun bt689 => ((round_Decide.f k 64 bt684.1 bt684.2.1 bt684.2.2 bt689.1 bt689.2.1 bt689.2.2).bind fun bt694 => (if bt694.1 = 4607182418800017408 then (if bt694.2.1 = true then (if bt694.2.2 = 0 then ((gnomonlaw08_awake.f k).bind fun t697 => (gnomonlaw08_RoundDecided.j0 k t683 (!t697) a1_0 l1_1 a1_2 a1_3 l1_4 a1_5 a2_0 l2_1 a2_2)) else (gnomonlaw08_RoundDecided.j0 k t683 true a1_0 l1_1 a1_2 a1_3 l1_4 a1_5 a2_0 l2_1 a2_2)) else (gnomonlaw08_RoundDecided.j0 k t683 true a1_0 l1_1 a1_2 a1_3 l1_4 a1_5 a2_0 l2_1 a2_2)) else (gnomonlaw08_RoundDecided.j0 k t683 true a1_0 l1_1 a1_2 a1_3 l1_4 a1_5 a2_0 l2_1 a2_2)))))
set_option maxHeartbeats 8000000 in
set_option maxRecDepth 100000 in
theorem gnomonlaw08_RoundDecided.calls (k : Nat) (a0 : Bool) (a1_0 : Bool) (A1_1 : Option Addr) (c1_1 : Nat) (l1_1 : List Int) (a1_2 : Int) (a1_3 : Bool) (A1_4 : Option Addr) (c1_4 : Nat) (l1_4 : List Int) (a1_5 : Int) (a2_0 : Bool) (A2_1 : Option Addr) (c2_1 : Nat) (l2_1 : List Int) (a2_2 : Int) (r : Bool) (w : World) (hr1_1 : Kd.C (Kd.int .u64) w A1_1 l1_1.length l1_1) (hc1_1 : l1_1.length ≤ c1_1) (hr1_4 : Kd.C (Kd.int .u64) w A1_4 l1_4.length l1_4) (hc1_4 : l1_4.length ≤ c1_4) (hr2_1 : Kd.C (Kd.int .u64) w A2_1 l2_1.length l2_1) (hc2_1 : l2_1.length ≤ c2_1) (hT : Tab w) (h : gnomonlaw08_RoundDecided.f k a0 a1_0 l1_1 a1_2 a1_3 l1_4 a1_5 a2_0 l2_1 a2_2 = some r) :
  Calls Tryd.prog 3 #[.bool a0, .agg #[.bool a1_0, .slice A1_1 l1_1.length c1_1, .int .i64 a1_2, .bool a1_3, .slice A1_4 l1_4.length c1_4, .int .i64 a1_5], .agg #[.bool a2_0, .slice A2_1 l2_1.length c2_1, .int .i64 a2_2]] w fun e w' => e = .returned (.bool r) ∧ Below w.heap.size w w' := by
 have hu28 := Tryd.underlying28
 have hu26 := Tryd.underlying26
 have HR1_1 := Aside0.mk hr1_1
 have HC1_1 := Aside0.mk hc1_1
 clear hr1_1 hc1_1
 have HR1_4 := Aside0.mk hr1_4
 have HC1_4 := Aside0.mk hc1_4
 clear hr1_4 hc1_4
 have HR2_1 := Aside0.mk hr2_1
 have HC2_1 := Aside0.mk hc2_1
 clear hr2_1 hc2_1
 have HB := Aside0.mk (Below.refl w.heap.size w)
 have H : ((gnomonlaw08_format.f a0).bind fun t683 => ((gnomonlaw08_num.f k 1 0).bind fun bt684 => ((gnomonlaw08_num.f k 1 0).bind fun bt689 => ((round_Decide.f k 64 bt684.1 bt684.2.1 bt684.2.2 bt689.1 bt689.2.1 bt689.2.2).bind fun bt694 => (if bt694.1 = 4607182418800017408 then (if bt694.2.1 = true then (if bt694.2.2 = 0 then ((gnomonlaw08_awake.f k).bind fun t697 => (gnomonlaw08_RoundDecided.j0 k t683 (!t697) a1_0 l1_1 a1_2 a1_3 l1_4 a1_5 a2_0 l2_1 a2_2)) else (gnomonlaw08_RoundDecided.j0 k t683 true a1_0 l1_1 a1_2 a1_3 l1_4 a1_5 a2_0 l2_1 a2_2)) else (gnomonlaw08_RoundDecided.j0 k t683 true a1_0 l1_1 a1_2 a1_3 l1_4 a1_5 a2_0 l2_1 a2_2)) else (gnomonlaw08_RoundDecided.j0 k t683 true a1_0 l1_1 a1_2 a1_3 l1_4 a1_5 a2_0 l2_1 a2_2)))))) = some r := h
 clear h
 replace H := Option.bind_eq_some_iff.mp H
 obtain ⟨t683, A40, H⟩ := H
 replace H : ((gnomonlaw08_num.f k 1 0).bind fun bt684 => ((gnomonlaw08_num.f k 1 0).bind fun bt689 => ((round_Decide.f k 64 bt684.1 bt684.2.1 bt684.2.2 bt689.1 bt689.2.1 bt689.2.2).bind fun bt694 => (if bt694.1 = 4607182418800017408 then (if bt694.2.1 = true then (if bt694.2.2 = 0 then ((gnomonlaw08_awake.f k).bind fun t697 => (gnomonlaw08_RoundDecided.j0 k t683 (!t697) a1_0 l1_1 a1_2 a1_3 l1_4 a1_5 a2_0 l2_1 a2_2)) else (gnomonlaw08_RoundDecided.j0 k t683 true a1_0 l1_1 a1_2 a1_3 l1_4 a1_5 a2_0 l2_1 a2_2)) else (gnomonlaw08_RoundDecided.j0 k t683 true a1_0 l1_1 a1_2 a1_3 l1_4 a1_5 a2_0 l2_1 a2_2)) else (gnomonlaw08_RoundDecided.j0 k t683 true a1_0 l1_1 a1_2 a1_3 l1_4 a1_5 a2_0 l2_1 a2_2))))) = some r := H
 have A4 := Aside0.mk A40
 clear A40
 replace H := Option.bind_eq_some_iff.mp H
 obtain ⟨⟨t684, t685, t688⟩, A50, H⟩ := H
 replace H : ((gnomonlaw08_num.f k 1 0).bind fun bt689 => ((round_Decide.f k 64 t684 t685 t688 bt689.1 bt689.2.1 bt689.2.2).bind fun bt694 => (if bt694.1 = 4607182418800017408 then (if bt694.2.1 = true then (if bt694.2.2 = 0 then ((gnomonlaw08_awake.f k).bind fun t697 => (gnomonlaw08_RoundDecided.j0 k t683 (!t697) a1_0 l1_1 a1_2 a1_3 l1_4 a1_5 a2_0 l2_1 a2_2)) else (gnomonlaw08_RoundDecided.j0 k t683 true a1_0 l1_1 a1_2 a1_3 l1_4 a1_5 a2_0 l2_1 a2_2)) else (gnomonlaw08_RoundDecided.j0 k t683 true a1_0 l1_1 a1_2 a1_3 l1_4 a1_5 a2_0 l2_1 a2_2)) else (gnomonlaw08_RoundDecided.j0 k t683 true a1_0 l1_1 a1_2 a1_3 l1_4 a1_5 a2_0 l2_1 a2_2)))) = some r := H
 have A5 := Aside0.mk A50
 clear A50
 replace H := Option.bind_eq_some_iff.mp H
 obtain ⟨⟨t689, t690, t693⟩, A60, H⟩ := H
 replace H : ((round_Decide.f k 64 t684 t685 t688 t689 t690 t693).bind fun bt694 => (if bt694.1 = 4607182418800017408 then (if bt694.2.1 = true then (if bt694.2.2 = 0 then ((gnomonlaw08_awake.f k).bind fun t697 => (gnomonlaw08_RoundDecided.j0 k t683 (!t697) a1_0 l1_1 a1_2 a1_3 l1_4 a1_5 a2_0 l2_1 a2_2)) else (gnomonlaw08_RoundDecided.j0 k t683 true a1_0 l1_1 a1_2 a1_3 l1_4 a1_5 a2_0 l2_1 a2_2)) else (gnomonlaw08_RoundDecided.j0 k t683 true a1_0 l1_1 a1_2 a1_3 l1_4 a1_5 a2_0 l2_1 a2_2)) else (gnomonlaw08_RoundDecided.j0 k t683 true a1_0 l1_1 a1_2 a1_3 l1_4 a1_5 a2_0 l2_1 a2_2))) = some r := H
 have A6 := Aside0.mk A60
 clear A60
 replace H := Option.bind_eq_some_iff.mp H
 obtain ⟨⟨t694, t695, t696⟩, A70, H⟩ := H
 replace H : (if t694 = 4607182418800017408 then (if t695 = true then (if t696 = 0 then ((gnomonlaw08_awake.f k).bind fun t697 => (gnomonlaw08_RoundDecided.j0 k t683 (!t697) a1_0 l1_1 a1_2 a1_3 l1_4 a1_5 a2_0 l2_1 a2_2)) else (gnomonlaw08_RoundDecided.j0 k t683 true a1_0 l1_1 a1_2 a1_3 l1_4 a1_5 a2_0 l2_1 a2_2)) else (gnomonlaw08_RoundDecided.j0 k t683 true a1_0 l1_1 a1_2 a1_3 l1_4 a1_5 a2_0 l2_1 a2_2)) else (gnomonlaw08_RoundDecided.j0 k t683 true a1_0 l1_1 a1_2 a1_3 l1_4 a1_5 a2_0 l2_1 a2_2)) = some r := H
 have A7 := Aside0.mk A70
 clear A70
 have HC8 := Aside0.mk H
 clear H
 go_enter Tryd.func3, Tryd.ntmps3
 go_upto_region 3 with (first | ((with_reducible refine gate_dst (N := 4) rfl ?_); refine box_event ?hg (N := 4) ?hd (cs := #[.bool a1_0, .slice A1_1 l1_1.length c1_1, .int .i64 a1_2, .bool a1_3, .slice A1_4 l1_4.length c1_4, .int .i64 a1_5]) (t := 28) ?hr ?_; (case hd => rfl); (case hg => rfl); (case hr => first | (go_simp; done) | (go_simp; rfl)); intro gb681 hg w9 hbox hb; have n0_ := Aside0.mk (below_step (by repeat (first | (with_reducible first | exact HB.out | apply below_alloc | apply pw_below_drewN | apply below_drew1) | exact HB.out)) hb); have n1_ := Aside0.mk (hbox); have n2_ := Aside0.mk ((by rw [hg]; exact (below_size (by repeat (first | (with_reducible first | exact HB.out | apply below_alloc | apply pw_below_drewN | apply below_drew1) | exact HB.out))) : w.heap.size ≤ gb681)); have n3_ := Aside0.mk ((by rw [hg]; exact (below_size (by repeat (first | (with_reducible first | exact HB.out | apply below_alloc | apply pw_below_drewN | apply below_drew1) | exact HB.out))) : w.heap.size ≤ gb681)); clear HB; have HB := n0_; have BK681 := n1_; have GW681 := n2_; have GE681 := n3_; clear n0_ n1_ n2_ n3_; clear hb hbox hg) | ((with_reducible refine gate_dst (N := 5) rfl ?_); refine box_event ?hg (N := 5) ?hd (cs := #[.bool a2_0, .slice A2_1 l2_1.length c2_1, .int .i64 a2_2]) (t := 26) ?hr ?_; (case hd => rfl); (case hg => rfl); (case hr => first | (go_simp; done) | (go_simp; rfl)); intro gb682 hg w10 hbox hb; have n0_ := Aside0.mk (blk_below (g := gb681) (o := .cells #[.bool a1_0, .slice A1_1 l1_1.length c1_1, .int .i64 a1_2, .bool a1_3, .slice A1_4 l1_4.length c1_4, .int .i64 a1_5] 28 (0, 0)) (by (with_reducible repeat (first | refine blk_drewN ?_ _ | refine blk_drew ?_ | refine blk_alloc ?_ _)); exact BK681.out) hb); have n1_ := Aside0.mk (below_step (by repeat (first | (with_reducible first | exact HB.out | apply below_alloc | apply pw_below_drewN | apply below_drew1 | refine below_set ?_ GE681.out) | exact HB.out)) hb); have n2_ := Aside0.mk (hbox); have n3_ := Aside0.mk ((by rw [hg]; exact (below_size (by repeat (first | (with_reducible first | exact HB.out | apply below_alloc | apply pw_below_drewN | apply below_drew1 | refine below_set ?_ GE681.out) | exact HB.out))) : w.heap.size ≤ gb682)); have n4_ := Aside0.mk ((by rw [hg]; exact (below_size (by repeat (first | (with_reducible first | exact HB.out | apply below_alloc | apply pw_below_drewN | apply below_drew1 | refine below_set ?_ GE681.out) | exact HB.out))) : w.heap.size ≤ gb682)); have n5_ := Aside0.mk ((by rw [hg]; exact Nat.ne_of_lt (blk_lt (g := gb681) (o := .cells #[.bool a1_0, .slice A1_1 l1_1.length c1_1, .int .i64 a1_2, .bool a1_3, .slice A1_4 l1_4.length c1_4, .int .i64 a1_5] 28 (0, 0)) (by (with_reducible repeat (first | refine blk_drewN ?_ _ | refine blk_drew ?_ | refine blk_alloc ?_ _)); exact BK681.out)) : gb681 ≠ gb682)); have n6_ := Aside0.mk ((by rw [hg]; exact Nat.ne_of_gt (blk_lt (g := gb681) (o := .cells #[.bool a1_0, .slice A1_1 l1_1.length c1_1, .int .i64 a1_2, .bool a1_3, .slice A1_4 l1_4.length c1_4, .int .i64 a1_5] 28 (0, 0)) (by (with_reducible repeat (first | refine blk_drewN ?_ _ | refine blk_drew ?_ | refine blk_alloc ?_ _)); exact BK681.out)) : gb682 ≠ gb681)); clear BK681; clear HB; have BK681 := n0_; have HB := n1_; have BK682 := n2_; have GW682 := n3_; have GE682 := n4_; have NB681_682 := n5_; have NB682_681 := n6_; clear n0_ n1_ n2_ n3_ n4_ n5_ n6_; clear hb hbox hg) | ((with_reducible refine gate_callee (f := 8) rfl ?_); refine goesL_ (some 19) rfl rfl Tryd.func8 (by kernel_rfl) rfl #[.bool a0] rfl (by (try simp only [List.map_toArray, List.map_cons, List.map_nil]); first | done | rfl | (simp only [List.length_drop, List.length_take]; rfl)) ?_; (with_reducible refine (gnomonlaw08_format.calls a0 t683 _ A4.out).mono ?_); rintro e w' ⟨rfl, ⟨nd, rfl⟩⟩; refine ⟨_, rfl, ?_⟩) | ((with_reducible refine gate_callee (f := 10) rfl ?_); refine goesL_ (some 21) rfl rfl Tryd.func10 (by kernel_rfl) rfl #[.int .i64 1, .int .i64 0] rfl (by (try simp only [List.map_toArray, List.map_cons, List.map_nil]); first | done | rfl | (simp only [List.length_drop, List.length_take]; rfl)) ?_; (with_reducible refine (gnomonlaw08_num.calls k 1 0 t684 t685 t688 _ A5.out).mono ?_); rintro e w11 ⟨v686, rfl, ho0, hb⟩; refine ⟨_, rfl, ?_⟩; have n0_ := Aside0.mk (Kd.R_lower ho0 (below_size (by repeat (first | (with_reducible first | exact HB.out | apply below_alloc | apply pw_below_drewN | apply below_drew1 | refine below_set ?_ GE681.out | refine below_set ?_ GE682.out) | exact HB.out)))); have n1_ := Aside0.mk (blk_below (g := gb681) (o := .cells #[.bool a1_0, .slice A1_1 l1_1.length c1_1, .int .i64 a1_2, .bool a1_3, .slice A1_4 l1_4.length c1_4, .int .i64 a1_5] 28 (0, 0)) (by (with_reducible repeat (first | refine blk_drewN ?_ _ | refine blk_drew ?_ | refine blk_alloc ?_ _)); exact BK681.out) hb); have n2_ := Aside0.mk (blk_below (g := gb682) (o := .cells #[.bool a2_0, .slice A2_1 l2_1.length c2_1, .int .i64 a2_2] 26 (0, 0)) (by (with_reducible repeat (first | refine blk_drewN ?_ _ | refine blk_drew ?_ | refine blk_alloc ?_ _)); exact BK682.out) hb); have n3_ := Aside0.mk (below_step (by repeat (first | (with_reducible first | exact HB.out | apply below_alloc | apply pw_below_drewN | apply below_drew1 | refine below_set ?_ GE681.out | refine below_set ?_ GE682.out) | exact HB.out)) hb); clear BK681; clear BK682; clear HB; have HO687 := n0_; have BK681 := n1_; have BK682 := n2_; have HB := n3_; clear n0_ n1_ n2_ n3_; (try clear hb); (try clear hb2); (try clear hk); (try clear hi); (try clear ho0)) | ((with_reducible refine gate_callee (f := 10) rfl ?_); refine goesL_ (some 22) rfl rfl Tryd.func10 (by kernel_rfl) rfl #[.int .i64 1, .int .i64 0] rfl (by (try simp only [List.map_toArray, List.map_cons, List.map_nil]); first | done | rfl | (simp only [List.length_drop, List.length_take]; rfl)) ?_; (with_reducible refine (gnomonlaw08_num.calls k 1 0 t689 t690 t693 _ A6.out).mono ?_); rintro e w12 ⟨v691, rfl, ho0, hb⟩; refine ⟨_, rfl, ?_⟩; have n0_ := Aside0.mk (Kd.R_elder' (by (with_reducible repeat (first | apply Kd.R_alloc | apply Kd.R_drewN | apply Kd.R_drew)); exact HO687.out) (Kd.R_base ho0) hb); have n1_ := Aside0.mk (Kd.R_lower (Kd.R_new' ho0 (Kd.R_lt (by (with_reducible repeat (first | apply Kd.R_alloc | apply Kd.R_drewN | apply Kd.R_drew)); exact HO687.out))) (below_size (by repeat (first | (with_reducible first | exact HB.out | apply below_alloc | apply pw_below_drewN | apply below_drew1 | refine below_set ?_ GE681.out | refine below_set ?_ GE682.out) | exact HB.out)))); have n2_ := Aside0.mk (blk_below (g := gb681) (o := .cells #[.bool a1_0, .slice A1_1 l1_1.length c1_1, .int .i64 a1_2, .bool a1_3, .slice A1_4 l1_4.length c1_4, .int .i64 a1_5] 28 (0, 0)) (by (with_reducible repeat (first | refine blk_drewN ?_ _ | refine blk_drew ?_ | refine blk_alloc ?_ _)); exact BK681.out) hb); have n3_ := Aside0.mk (blk_below (g := gb682) (o := .cells #[.bool a2_0, .slice A2_1 l2_1.length c2_1, .int .i64 a2_2] 26 (0, 0)) (by (with_reducible repeat (first | refine blk_drewN ?_ _ | refine blk_drew ?_ | refine blk_alloc ?_ _)); exact BK682.out) hb); have n4_ := Aside0.mk (below_step (by repeat (first | (with_reducible first | exact HB.out | apply below_alloc | apply pw_below_drewN | apply below_drew1 | refine below_set ?_ GE681.out | refine below_set ?_ GE682.out) | exact HB.out)) hb); clear HO687; clear BK681; clear BK682; clear HB; have HO687 := n0_; have HO692 := n1_; have BK681 := n2_; have BK682 := n3_; have HB := n4_; clear n0_ n1_ n2_ n3_ n4_; (try clear hb); (try clear hb2); (try clear hk); (try clear hi); (try clear ho0); obtain ⟨Ao13, co13, eo13⟩ := Kd.R_slice HO692.out; subst eo13; obtain ⟨Ao14, co14, eo14⟩ := Kd.R_slice HO687.out; subst eo14) | ((with_reducible refine gate_callee (f := 9) rfl ?_); refine goesL_ (some 24) rfl rfl Tryd.func9 (by kernel_rfl) rfl #[.int .i64 64, .agg #[.bool t684, .slice Ao14 t685.length co14, .int .i64 t688, .bool t689, .slice Ao13 t690.length co13, .int .i64 t693]] rfl (by (try simp only [List.map_toArray, List.map_cons, List.map_nil]); first | done | rfl | (simp only [List.length_drop, List.length_take]; rfl)) ?_; (with_reducible refine (round_Decide.calls k 64 t684 _ _ t685 t688 t689 _ _ t690 t693 t694 t695 t696 _ ?side1 ?side2 ?side3 ?side4 ?side5 A7.out).mono ?_); (case side1 => repeat (first | exact (Kd.R_reads' HO687.out).2.2 | (with_reducible refine Kd.C_alloc ?_ _) | (with_reducible refine Kd.C_drewN ?_ _) | (with_reducible refine Kd.C_drew ?_))); (case side2 => exact (Kd.R_reads' HO687.out).2.1); (case side3 => repeat (first | exact (Kd.R_reads' HO692.out).2.2 | (with_reducible refine Kd.C_alloc ?_ _) | (with_reducible refine Kd.C_drewN ?_ _) | (with_reducible refine Kd.C_drew ?_))); (case side4 => exact (Kd.R_reads' HO692.out).2.1); (case side5 => exact Tab.next hT (by repeat (first | (with_reducible first | exact HB.out | apply below_alloc | apply pw_below_drewN | apply below_drew1 | refine below_set ?_ GE681.out | refine below_set ?_ GE682.out) | exact HB.out))); rintro e w15 ⟨rfl, hb⟩; refine ⟨_, rfl, ?_⟩; have n0_ := Aside0.mk (Kd.R_below (by (with_reducible repeat (first | apply Kd.R_alloc | apply Kd.R_drewN | apply Kd.R_drew)); exact HO687.out) hb); have n1_ := Aside0.mk (Kd.R_below (by (with_reducible repeat (first | apply Kd.R_alloc | apply Kd.R_drewN | apply Kd.R_drew)); exact HO692.out) hb); have n2_ := Aside0.mk (blk_below (g := gb681) (o := .cells #[.bool a1_0, .slice A1_1 l1_1.length c1_1, .int .i64 a1_2, .bool a1_3, .slice A1_4 l1_4.length c1_4, .int .i64 a1_5] 28 (0, 0)) (by (with_reducible repeat (first | refine blk_drewN ?_ _ | refine blk_drew ?_ | refine blk_alloc ?_ _)); exact BK681.out) hb); have n3_ := Aside0.mk (blk_below (g := gb682) (o := .cells #[.bool a2_0, .slice A2_1 l2_1.length c2_1, .int .i64 a2_2] 26 (0, 0)) (by (with_reducible repeat (first | refine blk_drewN ?_ _ | refine blk_drew ?_ | refine blk_alloc ?_ _)); exact BK682.out) hb); have n4_ := Aside0.mk (below_step (by repeat (first | (with_reducible first | exact HB.out | apply below_alloc | apply pw_below_drewN | apply below_drew1 | refine below_set ?_ GE681.out | refine below_set ?_ GE682.out) | exact HB.out)) hb); clear HO687; clear HO692; clear BK681; clear BK682; clear HB; have HO687 := n0_; have HO692 := n1_; have BK681 := n2_; have BK682 := n3_; have HB := n4_; clear n0_ n1_ n2_ n3_ n4_; (try clear hb); (try clear hb2); (try clear hk); (try clear hi)))
 (try simp only [Act.put, List.setIfInBounds_toArray, List.set_cons_zero, List.set_cons_succ])
 go_cut [41] (fun v41 wc => ∃ (kq : Nat) (x41_7 : Bool), v41 = .bool x41_7 ∧ Aside0 (gnomonlaw08_RoundDecided.j0 kq t683 x41_7 a1_0 l1_1 a1_2 a1_3 l1_4 a1_5 a2_0 l2_1 a2_2 = some r) ∧ Aside0 (kq ≤ k) ∧ Aside0 (wc.heap[gb681]? = some (.cells #[.bool a1_0, (.slice A1_1 l1_1.length c1_1), .int .i64 a1_2, .bool a1_3, (.slice A1_4 l1_4.length c1_4), .int .i64 a1_5] 28 (0, 0))) ∧ Aside0 (wc.heap[gb682]? = some (.cells #[.bool a2_0, (.slice A2_1 l2_1.length c2_1), .int .i64 a2_2] 26 (0, 0))) ∧ Aside0 (Below w.heap.size w wc))
 case first =>
  have H := HC8.out
  clear HC8
  by_cases c16 : t694 = 4607182418800017408
  ·rw [if_pos c16] at H
   have c16b0 : (t694 == 4607182418800017408) = true := beq_iff_eq.mpr c16
   have c16b1 : (t694 != 4607182418800017408) = false := bne_eq_false_iff_eq.mpr c16
   clear c16
   (first | rw [c16b0] | (simp only [i64_w, i32_w]; rw [c16b0]) | skip)
   by_cases c17 : t695 = true
   ·subst c17
    have H1 : (if t696 = 0 then ((gnomonlaw08_awake.f k).bind fun t697 => (gnomonlaw08_RoundDecided.j0 k t683 (!t697) a1_0 l1_1 a1_2 a1_3 l1_4 a1_5 a2_0 l2_1 a2_2)) else (gnomonlaw08_RoundDecided.j0 k t683 true a1_0 l1_1 a1_2 a1_3 l1_4 a1_5 a2_0 l2_1 a2_2)) = some r := by rw [if_pos rfl] at H; exact H
    clear H
    have H := H1
    clear H1
    by_cases c18 : t696 = 0
    ·rw [if_pos c18] at H
     have c18b0 : (t696 == 0) = true := beq_iff_eq.mpr c18
     have c18b1 : (t696 != 0) = false := bne_eq_false_iff_eq.mpr c18
     clear c18
     replace H := Option.bind_eq_some_iff.mp H
     obtain ⟨t697, A190, H⟩ := H
     replace H : (gnomonlaw08_RoundDecided.j0 k t683 (!t697) a1_0 l1_1 a1_2 a1_3 l1_4 a1_5 a2_0 l2_1 a2_2) = some r := H
     have A19 := Aside0.mk A190
     clear A190
     have H' := Aside0.mk H
     clear H
     go_wp2_with (first | (go_at_call 11; (with_reducible refine (gnomonlaw08_awake.calls k  t697 _ ?side1 A19.out).mono ?_); (case side1 => exact Tab.next hT (by repeat (first | (with_reducible first | exact HB.out | apply below_alloc | apply pw_below_drewN | apply below_drew1 | refine below_set ?_ GE681.out | refine below_set ?_ GE682.out) | exact HB.out))); rintro e w20 ⟨rfl, hb⟩; have n0_ := Aside0.mk (Kd.R_below (by (with_reducible repeat (first | apply Kd.R_alloc | apply Kd.R_drewN | apply Kd.R_drew)); exact HO687.out) hb); have n1_ := Aside0.mk (Kd.R_below (by (with_reducible repeat (first | apply Kd.R_alloc | apply Kd.R_drewN | apply Kd.R_drew)); exact HO692.out) hb); have n2_ := Aside0.mk (blk_below (g := gb681) (o := .cells #[.bool a1_0, .slice A1_1 l1_1.length c1_1, .int .i64 a1_2, .bool a1_3, .slice A1_4 l1_4.length c1_4, .int .i64 a1_5] 28 (0, 0)) (by (with_reducible repeat (first | refine blk_drewN ?_ _ | refine blk_drew ?_ | refine blk_alloc ?_ _)); exact BK681.out) hb); have n3_ := Aside0.mk (blk_below (g := gb682) (o := .cells #[.bool a2_0, .slice A2_1 l2_1.length c2_1, .int .i64 a2_2] 26 (0, 0)) (by (with_reducible repeat (first | refine blk_drewN ?_ _ | refine blk_drew ?_ | refine blk_alloc ?_ _)); exact BK682.out) hb); have n4_ := Aside0.mk (below_step (by repeat (first | (with_reducible first | exact HB.out | apply below_alloc | apply pw_below_drewN | apply below_drew1 | refine below_set ?_ GE681.out | refine below_set ?_ GE682.out) | exact HB.out)) hb); clear HO687; clear HO692; clear BK681; clear BK682; clear HB; have HO687 := n0_; have HO692 := n1_; have BK681 := n2_; have BK682 := n3_; have HB := n4_; clear n0_ n1_ n2_ n3_ n4_; (try clear hb); (try clear hb2); (try clear hk); (try clear hi)))
     go_meet
     case rel => exact ⟨_, (!t697), (by first | rfl | (simp; done) | (simp [*]; done)), H', ⟨by first | omega | exact Nat.le_refl _⟩, ⟨by (with_reducible repeat (first | refine blk_drewN ?_ _ | refine blk_drew ?_ | refine blk_alloc ?_ _)); exact BK681.out⟩, ⟨by (with_reducible repeat (first | refine blk_drewN ?_ _ | refine blk_drew ?_ | refine blk_alloc ?_ _)); exact BK682.out⟩, ⟨by repeat (first | (with_reducible first | exact HB.out | apply below_alloc | apply pw_below_drewN | apply below_drew1 | refine below_set ?_ GE681.out | refine below_set ?_ GE682.out) | exact HB.out)⟩⟩
    ·rw [if_neg c18] at H
     have c18b0 : (t696 == 0) = false := beq_eq_false_iff_ne.mpr c18
     have c18b1 : (t696 != 0) = true := bne_iff_ne.mpr c18
     have H' := Aside0.mk H
     clear H
     go_wp2
     go_meet
     case rel => exact ⟨_, (true), (by first | rfl | (simp; done) | (simp [*]; done)), H', ⟨by first | omega | exact Nat.le_refl _⟩, ⟨by (with_reducible repeat (first | refine blk_drewN ?_ _ | refine blk_drew ?_ | refine blk_alloc ?_ _)); exact BK681.out⟩, ⟨by (with_reducible repeat (first | refine blk_drewN ?_ _ | refine blk_drew ?_ | refine blk_alloc ?_ _)); exact BK682.out⟩, ⟨by repeat (first | (with_reducible first | exact HB.out | apply below_alloc | apply pw_below_drewN | apply below_drew1 | refine below_set ?_ GE681.out | refine below_set ?_ GE682.out) | exact HB.out)⟩⟩
   ·replace c17 := Bool.eq_false_iff.mpr c17
    subst c17
    have H1 : (gnomonlaw08_RoundDecided.j0 k t683 true a1_0 l1_1 a1_2 a1_3 l1_4 a1_5 a2_0 l2_1 a2_2) = some r := by rw [if_neg (show ¬ (false = true) by decide)] at H; exact H
    clear H
    have H := H1
    clear H1
    have H' := Aside0.mk H
    clear H
    go_wp2
    go_meet
    case rel => exact ⟨_, (true), (by first | rfl | (simp; done) | (simp [*]; done)), H', ⟨by first | omega | exact Nat.le_refl _⟩, ⟨by (with_reducible repeat (first | refine blk_drewN ?_ _ | refine blk_drew ?_ | refine blk_alloc ?_ _)); exact BK681.out⟩, ⟨by (with_reducible repeat (first | refine blk_drewN ?_ _ | refine blk_drew ?_ | refine blk_alloc ?_ _)); exact BK682.out⟩, ⟨by repeat (first | (with_reducible first | exact HB.out | apply below_alloc | apply pw_below_drewN | apply below_drew1 | refine below_set ?_ GE681.out | refine below_set ?_ GE682.out) | exact HB.out)⟩⟩
  ·rw [if_neg c16] at H
   have c16b0 : (t694 == 4607182418800017408) = false := beq_eq_false_iff_ne.mpr c16
   have c16b1 : (t694 != 4607182418800017408) = true := bne_iff_ne.mpr c16
   (first | rw [c16b0] | (simp only [i64_w, i32_w]; rw [c16b0]) | skip)
   have H' := Aside0.mk H
   clear H
   go_wp2
   go_meet
   case rel => exact ⟨_, (true), (by first | rfl | (simp; done) | (simp [*]; done)), H', ⟨by first | omega | exact Nat.le_refl _⟩, ⟨by (with_reducible repeat (first | refine blk_drewN ?_ _ | refine blk_drew ?_ | refine blk_alloc ?_ _)); exact BK681.out⟩, ⟨by (with_reducible repeat (first | refine blk_drewN ?_ _ | refine blk_drew ?_ | refine blk_alloc ?_ _)); exact BK682.out⟩, ⟨by repeat (first | (with_reducible first | exact HB.out | apply below_alloc | apply pw_below_drewN | apply below_drew1 | refine below_set ?_ GE681.out | refine below_set ?_ GE682.out) | exact HB.out)⟩⟩
 case rest =>
  clear HC8
  try clear c1
  try clear c2
  try clear p2
  try clear c3
  try clear c8
  try clear c9
  try clear c10
  try clear c16
  try clear c16b0
  try clear c16b1
  try clear c17
  try clear c18
  try clear c18b0
  try clear c18b1
  obtain ⟨kq, x41_7, rfl, HA, HJ7, BK681, BK682, HB⟩ := hcut
  cases kq with
  | zero => exact absurd HA.out (by simp [gnomonlaw08_RoundDecided.j0])
  | succ kj7 =>
   have H := HA.out
   clear HA
   simp only [gnomonlaw08_RoundDecided.j0] at H
   by_cases c21 : x41_7 = true
   ·subst c21
    have H1 : (some false) = some r := by rw [if_pos rfl] at H; exact H
    clear H
    have H := H1
    clear H1
    obtain rfl := Option.some.inj H
    go_wp2
    go_ret
    exact ⟨by first | rfl | (simp [errW_none, errW_some] <;> rfl) | (simp [*, errW_none, errW_some] <;> rfl), by repeat (first | (with_reducible first | exact HB.out | apply below_alloc | apply pw_below_drewN | apply below_drew1 | refine below_set ?_ GE681.out | refine below_set ?_ GE682.out) | exact HB.out)⟩
   ·replace c21 := Bool.eq_false_iff.mpr c21
    subst c21
    have H1 : ((round_Decide.f kj7 t683 a1_0 l1_1 a1_2 a1_3 l1_4 a1_5).bind fun bt698 => ((gnomonref05_DocForm.f kj7 a1_0 l1_1 a1_2).bind fun t701 => (if t701 = true then ((gnomonref05_DocForm.f kj7 a1_3 l1_4 a1_5).bind fun t702 => (gnomonlaw08_RoundDecided.j1 kj7 t683 bt698.1 bt698.2.1 bt698.2.2 (!t702) a1_0 l1_1 a1_2 a1_3 l1_4 a1_5 a2_0 l2_1 a2_2)) else (gnomonlaw08_RoundDecided.j1 kj7 t683 bt698.1 bt698.2.1 bt698.2.2 true a1_0 l1_1 a1_2 a1_3 l1_4 a1_5 a2_0 l2_1 a2_2)))) = some r := by rw [if_neg (show ¬ (false = true) by decide)] at H; exact H
    clear H
    have H := H1
    clear H1
    replace H := Option.bind_eq_some_iff.mp H
    obtain ⟨⟨t698, t699, t700⟩, A220, H⟩ := H
    replace H : ((gnomonref05_DocForm.f kj7 a1_0 l1_1 a1_2).bind fun t701 => (if t701 = true then ((gnomonref05_DocForm.f kj7 a1_3 l1_4 a1_5).bind fun t702 => (gnomonlaw08_RoundDecided.j1 kj7 t683 t698 t699 t700 (!t702) a1_0 l1_1 a1_2 a1_3 l1_4 a1_5 a2_0 l2_1 a2_2)) else (gnomonlaw08_RoundDecided.j1 kj7 t683 t698 t699 t700 true a1_0 l1_1 a1_2 a1_3 l1_4 a1_5 a2_0 l2_1 a2_2))) = some r := H
    have A22 := Aside0.mk A220
    clear A220
    have HC23 := Aside0.mk H
    clear H
    have hnb24 := NB681_682.out
    have hnc24 := NB682_681.out
    have hcz25_0 : wc.cell? ⟨gb681, 0, none⟩ = some (.bool a1_0) := (blk_cell BK681.out 0).trans rfl
    have hcz25_1 : wc.cell? ⟨gb681, 1, none⟩ = some (.slice A1_1 l1_1.length c1_1) := (blk_cell BK681.out 1).trans rfl
    have hcz25_2 : wc.cell? ⟨gb681, 2, none⟩ = some (.int .i64 a1_2) := (blk_cell BK681.out 2).trans rfl
    have hcz25_3 : wc.cell? ⟨gb681, 3, none⟩ = some (.bool a1_3) := (blk_cell BK681.out 3).trans rfl
    have hcz25_4 : wc.cell? ⟨gb681, 4, none⟩ = some (.slice A1_4 l1_4.length c1_4) := (blk_cell BK681.out 4).trans rfl
    have hcz25_5 : wc.cell? ⟨gb681, 5, none⟩ = some (.int .i64 a1_5) := (blk_cell BK681.out 5).trans rfl
    have hfz25_0 := blk_frozen BK681.out 0
    have hfz25_1 := blk_frozen BK681.out 1
    have hfz25_2 := blk_frozen BK681.out 2
    have hfz25_3 := blk_frozen BK681.out 3
    have hfz25_4 := blk_frozen BK681.out 4
    have hfz25_5 := blk_frozen BK681.out 5
    go_upto_region 6 with (first | ((with_reducible refine gate_callee (f := 9) rfl ?_); refine goesL_ (some 45) rfl rfl Tryd.func9 (by kernel_rfl) rfl #[.int .i64 t683, .agg #[.bool a1_0, .slice A1_1 l1_1.length c1_1, .int .i64 a1_2, .bool a1_3, .slice A1_4 l1_4.length c1_4, .int .i64 a1_5]] rfl (by (try simp only [List.map_toArray, List.map_cons, List.map_nil]); first | done | rfl | (simp only [List.length_drop, List.length_take]; rfl)) ?_; (with_reducible refine (round_Decide.calls kj7 t683 a1_0 _ _ l1_1 a1_2 a1_3 _ _ l1_4 a1_5 t698 t699 t700 _ ?side1 ?side2 ?side3 ?side4 ?side5 A22.out).mono ?_); (case side1 => repeat (first | exact (Kd.C_below HR1_1.out HB.out) | (with_reducible refine Kd.C_alloc ?_ _) | (with_reducible refine Kd.C_drewN ?_ _) | (with_reducible refine Kd.C_drew ?_))); (case side2 => exact HC1_1.out); (case side3 => repeat (first | exact (Kd.C_below HR1_4.out HB.out) | (with_reducible refine Kd.C_alloc ?_ _) | (with_reducible refine Kd.C_drewN ?_ _) | (with_reducible refine Kd.C_drew ?_))); (case side4 => exact HC1_4.out); (case side5 => exact Tab.next hT (by repeat (first | (with_reducible first | exact HB.out | apply below_alloc | apply pw_below_drewN | apply below_drew1 | refine below_set ?_ GE681.out | refine below_set ?_ GE682.out) | exact HB.out))); rintro e w26 ⟨rfl, hb⟩; refine ⟨_, rfl, ?_⟩; have n0_ := Aside0.mk (blk_below (g := gb681) (o := .cells #[.bool a1_0, .slice A1_1 l1_1.length c1_1, .int .i64 a1_2, .bool a1_3, .slice A1_4 l1_4.length c1_4, .int .i64 a1_5] 28 (0, 0)) (by (with_reducible repeat (first | refine blk_drewN ?_ _ | refine blk_drew ?_ | refine blk_alloc ?_ _)); exact BK681.out) hb); have n1_ := Aside0.mk (blk_below (g := gb682) (o := .cells #[.bool a2_0, .slice A2_1 l2_1.length c2_1, .int .i64 a2_2] 26 (0, 0)) (by (with_reducible repeat (first | refine blk_drewN ?_ _ | refine blk_drew ?_ | refine blk_alloc ?_ _)); exact BK682.out) hb); have n2_ := Aside0.mk (below_step (by repeat (first | (with_reducible first | exact HB.out | apply below_alloc | apply pw_below_drewN | apply below_drew1 | refine below_set ?_ GE681.out | refine below_set ?_ GE682.out) | exact HB.out)) hb); clear BK681; clear BK682; clear HB; have BK681 := n0_; have BK682 := n1_; have HB := n2_; clear n0_ n1_ n2_; (try clear hb); (try clear hb2); (try clear hk); (try clear hi)))
    (try simp only [Act.put, List.setIfInBounds_toArray, List.set_cons_zero, List.set_cons_succ])
    go_cut [58] (fun v58 wc => ∃ (kq : Nat) (x58_22 : Bool), v58 = .bool x58_22 ∧ Aside0 (gnomonlaw08_RoundDecided.j1 kq t683 t698 t699 t700 x58_22 a1_0 l1_1 a1_2 a1_3 l1_4 a1_5 a2_0 l2_1 a2_2 = some r) ∧ Aside0 (kq ≤ kj7) ∧ Aside0 (wc.heap[gb681]? = some (.cells #[.bool a1_0, (.slice A1_1 l1_1.length c1_1), .int .i64 a1_2, .bool a1_3, (.slice A1_4 l1_4.length c1_4), .int .i64 a1_5] 28 (0, 0))) ∧ Aside0 (wc.heap[gb682]? = some (.cells #[.bool a2_0, (.slice A2_1 l2_1.length c2_1), .int .i64 a2_2] 26 (0, 0))) ∧ Aside0 (Below w.heap.size w wc))
    case first =>
     have H := HC23.out
     clear HC23
     replace H := Option.bind_eq_some_iff.mp H
     obtain ⟨t701, A270, H⟩ := H
     replace H : (if t701 = true then ((gnomonref05_DocForm.f kj7 a1_3 l1_4 a1_5).bind fun t702 => (gnomonlaw08_RoundDecided.j1 kj7 t683 t698 t699 t700 (!t702) a1_0 l1_1 a1_2 a1_3 l1_4 a1_5 a2_0 l2_1 a2_2)) else (gnomonlaw08_RoundDecided.j1 kj7 t683 t698 t699 t700 true a1_0 l1_1 a1_2 a1_3 l1_4 a1_5 a2_0 l2_1 a2_2)) = some r := H
     have A27 := Aside0.mk A270
     clear A270
     by_cases c28 : t701 = true
     ·subst c28
      have H1 : ((gnomonref05_DocForm.f kj7 a1_3 l1_4 a1_5).bind fun t702 => (gnomonlaw08_RoundDecided.j1 kj7 t683 t698 t699 t700 (!t702) a1_0 l1_1 a1_2 a1_3 l1_4 a1_5 a2_0 l2_1 a2_2)) = some r := by rw [if_pos rfl] at H; exact H
      clear H
      have H := H1
      clear H1
      replace H := Option.bind_eq_some_iff.mp H
      obtain ⟨t702, A290, H⟩ := H
      replace H : (gnomonlaw08_RoundDecided.j1 kj7 t683 t698 t699 t700 (!t702) a1_0 l1_1 a1_2 a1_3 l1_4 a1_5 a2_0 l2_1 a2_2) = some r := H
      have A29 := Aside0.mk A290
      clear A290
      have H' := Aside0.mk H
      clear H
      have hnb30 := NB681_682.out
      have hnc30 := NB682_681.out
      have hcz31_0 : w26.cell? ⟨gb681, 0, none⟩ = some (.bool a1_0) := (blk_cell BK681.out 0).trans rfl
      have hcz31_1 : w26.cell? ⟨gb681, 1, none⟩ = some (.slice A1_1 l1_1.length c1_1) := (blk_cell BK681.out 1).trans rfl
      have hcz31_2 : w26.cell? ⟨gb681, 2, none⟩ = some (.int .i64 a1_2) := (blk_cell BK681.out 2).trans rfl
      have hcz31_3 : w26.cell? ⟨gb681, 3, none⟩ = some (.bool a1_3) := (blk_cell BK681.out 3).trans rfl
      have hcz31_4 : w26.cell? ⟨gb681, 4, none⟩ = some (.slice A1_4 l1_4.length c1_4) := (blk_cell BK681.out 4).trans rfl
      have hcz31_5 : w26.cell? ⟨gb681, 5, none⟩ = some (.int .i64 a1_5) := (blk_cell BK681.out 5).trans rfl
      have hfz31_0 := blk_frozen BK681.out 0
      have hfz31_1 := blk_frozen BK681.out 1
      have hfz31_2 := blk_frozen BK681.out 2
      have hfz31_3 := blk_frozen BK681.out 3
      have hfz31_4 := blk_frozen BK681.out 4
      have hfz31_5 := blk_frozen BK681.out 5
      go_wp2_with (first | ((with_reducible refine gate_callee (f := 12) rfl ?_); refine goesL_ (some 51) rfl rfl Tryd.func12 (by kernel_rfl) rfl #[.agg #[.bool a1_0, .slice A1_1 l1_1.length c1_1, .int .i64 a1_2]] rfl (by (try simp only [List.map_toArray, List.map_cons, List.map_nil]); first | done | rfl | (simp only [List.length_drop, List.length_take]; rfl)) ?_; (with_reducible refine (gnomonref05_DocForm.calls kj7 a1_0 _ _ l1_1 a1_2 true _ ?side1 ?side2 A27.out).mono ?_); (case side1 => repeat (first | exact (Kd.C_below HR1_1.out HB.out) | (with_reducible refine Kd.C_alloc ?_ _) | (with_reducible refine Kd.C_drewN ?_ _) | (with_reducible refine Kd.C_drew ?_))); (case side2 => exact HC1_1.out); rintro e w32 ⟨rfl, hb⟩; refine ⟨_, rfl, ?_⟩; have n0_ := Aside0.mk (blk_below (g := gb681) (o := .cells #[.bool a1_0, .slice A1_1 l1_1.length c1_1, .int .i64 a1_2, .bool a1_3, .slice A1_4 l1_4.length c1_4, .int .i64 a1_5] 28 (0, 0)) (by (with_reducible repeat (first | refine blk_drewN ?_ _ | refine blk_drew ?_ | refine blk_alloc ?_ _)); exact BK681.out) hb); have n1_ := Aside0.mk (blk_below (g := gb682) (o := .cells #[.bool a2_0, .slice A2_1 l2_1.length c2_1, .int .i64 a2_2] 26 (0, 0)) (by (with_reducible repeat (first | refine blk_drewN ?_ _ | refine blk_drew ?_ | refine blk_alloc ?_ _)); exact BK682.out) hb); have n2_ := Aside0.mk (below_step (by repeat (first | (with_reducible first | exact HB.out | apply below_alloc | apply pw_below_drewN | apply below_drew1 | refine below_set ?_ GE681.out | refine below_set ?_ GE682.out) | exact HB.out)) hb); clear BK681; clear BK682; clear HB; have BK681 := n0_; have BK682 := n1_; have HB := n2_; clear n0_ n1_ n2_; (try clear hb); (try clear hb2); (try clear hk); (try clear hi); have hcz33_0 : w32.cell? ⟨gb681, 0, none⟩ = some (.bool a1_0) := (blk_cell BK681.out 0).trans rfl; have hcz33_1 : w32.cell? ⟨gb681, 1, none⟩ = some (.slice A1_1 l1_1.length c1_1) := (blk_cell BK681.out 1).trans rfl; have hcz33_2 : w32.cell? ⟨gb681, 2, none⟩ = some (.int .i64 a1_2) := (blk_cell BK681.out 2).trans rfl; have hcz33_3 : w32.cell? ⟨gb681, 3, none⟩ = some (.bool a1_3) := (blk_cell BK681.out 3).trans rfl; have hcz33_4 : w32.cell? ⟨gb681, 4, none⟩ = some (.slice A1_4 l1_4.length c1_4) := (blk_cell BK681.out 4).trans rfl; have hcz33_5 : w32.cell? ⟨gb681, 5, none⟩ = some (.int .i64 a1_5) := (blk_cell BK681.out 5).trans rfl; have hfz33_0 := blk_frozen BK681.out 0; have hfz33_1 := blk_frozen BK681.out 1; have hfz33_2 := blk_frozen BK681.out 2; have hfz33_3 := blk_frozen BK681.out 3; have hfz33_4 := blk_frozen BK681.out 4; have hfz33_5 := blk_frozen BK681.out 5) | (go_at_call 12; (with_reducible refine (gnomonref05_DocForm.calls kj7 a1_3 _ _ l1_4 a1_5 t702 _ ?side1 ?side2 A29.out).mono ?_); (case side1 => repeat (first | exact (Kd.C_below HR1_4.out HB.out) | (with_reducible refine Kd.C_alloc ?_ _) | (with_reducible refine Kd.C_drewN ?_ _) | (with_reducible refine Kd.C_drew ?_))); (case side2 => exact HC1_4.out); rintro e w34 ⟨rfl, hb⟩; have n0_ := Aside0.mk (blk_below (g := gb681) (o := .cells #[.bool a1_0, .slice A1_1 l1_1.length c1_1, .int .i64 a1_2, .bool a1_3, .slice A1_4 l1_4.length c1_4, .int .i64 a1_5] 28 (0, 0)) (by (with_reducible repeat (first | refine blk_drewN ?_ _ | refine blk_drew ?_ | refine blk_alloc ?_ _)); exact BK681.out) hb); have n1_ := Aside0.mk (blk_below (g := gb682) (o := .cells #[.bool a2_0, .slice A2_1 l2_1.length c2_1, .int .i64 a2_2] 26 (0, 0)) (by (with_reducible repeat (first | refine blk_drewN ?_ _ | refine blk_drew ?_ | refine blk_alloc ?_ _)); exact BK682.out) hb); have n2_ := Aside0.mk (below_step (by repeat (first | (with_reducible first | exact HB.out | apply below_alloc | apply pw_below_drewN | apply below_drew1 | refine below_set ?_ GE681.out | refine below_set ?_ GE682.out) | exact HB.out)) hb); clear BK681; clear BK682; clear HB; have BK681 := n0_; have BK682 := n1_; have HB := n2_; clear n0_ n1_ n2_; (try clear hb); (try clear hb2); (try clear hk); (try clear hi)))
      go_meet
      case rel => exact ⟨_, (!t702), (by first | rfl | (simp; done) | (simp [*]; done)), H', ⟨by have := HJ7.out; first | omega | exact Nat.le_refl _⟩, ⟨by (with_reducible repeat (first | refine blk_drewN ?_ _ | refine blk_drew ?_ | refine blk_alloc ?_ _)); exact BK681.out⟩, ⟨by (with_reducible repeat (first | refine blk_drewN ?_ _ | refine blk_drew ?_ | refine blk_alloc ?_ _)); exact BK682.out⟩, ⟨by repeat (first | (with_reducible first | exact HB.out | apply below_alloc | apply pw_below_drewN | apply below_drew1 | refine below_set ?_ GE681.out | refine below_set ?_ GE682.out) | exact HB.out)⟩⟩
     ·replace c28 := Bool.eq_false_iff.mpr c28
      subst c28
      have H1 : (gnomonlaw08_RoundDecided.j1 kj7 t683 t698 t699 t700 true a1_0 l1_1 a1_2 a1_3 l1_4 a1_5 a2_0 l2_1 a2_2) = some r := by rw [if_neg (show ¬ (false = true) by decide)] at H; exact H
      clear H
      have H := H1
      clear H1
      have H' := Aside0.mk H
      clear H
      have hnb35 := NB681_682.out
      have hnc35 := NB682_681.out
      have hcz36_0 : w26.cell? ⟨gb681, 0, none⟩ = some (.bool a1_0) := (blk_cell BK681.out 0).trans rfl
      have hcz36_1 : w26.cell? ⟨gb681, 1, none⟩ = some (.slice A1_1 l1_1.length c1_1) := (blk_cell BK681.out 1).trans rfl
      have hcz36_2 : w26.cell? ⟨gb681, 2, none⟩ = some (.int .i64 a1_2) := (blk_cell BK681.out 2).trans rfl
      have hcz36_3 : w26.cell? ⟨gb681, 3, none⟩ = some (.bool a1_3) := (blk_cell BK681.out 3).trans rfl
      have hcz36_4 : w26.cell? ⟨gb681, 4, none⟩ = some (.slice A1_4 l1_4.length c1_4) := (blk_cell BK681.out 4).trans rfl
      have hcz36_5 : w26.cell? ⟨gb681, 5, none⟩ = some (.int .i64 a1_5) := (blk_cell BK681.out 5).trans rfl
      have hfz36_0 := blk_frozen BK681.out 0
      have hfz36_1 := blk_frozen BK681.out 1
      have hfz36_2 := blk_frozen BK681.out 2
      have hfz36_3 := blk_frozen BK681.out 3
      have hfz36_4 := blk_frozen BK681.out 4
      have hfz36_5 := blk_frozen BK681.out 5
      go_wp2_with (first | ((with_reducible refine gate_callee (f := 12) rfl ?_); refine goesL_ (some 51) rfl rfl Tryd.func12 (by kernel_rfl) rfl #[.agg #[.bool a1_0, .slice A1_1 l1_1.length c1_1, .int .i64 a1_2]] rfl (by (try simp only [List.map_toArray, List.map_cons, List.map_nil]); first | done | rfl | (simp only [List.length_drop, List.length_take]; rfl)) ?_; (with_reducible refine (gnomonref05_DocForm.calls kj7 a1_0 _ _ l1_1 a1_2 false _ ?side1 ?side2 A27.out).mono ?_); (case side1 => repeat (first | exact (Kd.C_below HR1_1.out HB.out) | (with_reducible refine Kd.C_alloc ?_ _) | (with_reducible refine Kd.C_drewN ?_ _) | (with_reducible refine Kd.C_drew ?_))); (case side2 => exact HC1_1.out); rintro e w37 ⟨rfl, hb⟩; refine ⟨_, rfl, ?_⟩; have n0_ := Aside0.mk (blk_below (g := gb681) (o := .cells #[.bool a1_0, .slice A1_1 l1_1.length c1_1, .int .i64 a1_2, .bool a1_3, .slice A1_4 l1_4.length c1_4, .int .i64 a1_5] 28 (0, 0)) (by (with_reducible repeat (first | refine blk_drewN ?_ _ | refine blk_drew ?_ | refine blk_alloc ?_ _)); exact BK681.out) hb); have n1_ := Aside0.mk (blk_below (g := gb682) (o := .cells #[.bool a2_0, .slice A2_1 l2_1.length c2_1, .int .i64 a2_2] 26 (0, 0)) (by (with_reducible repeat (first | refine blk_drewN ?_ _ | refine blk_drew ?_ | refine blk_alloc ?_ _)); exact BK682.out) hb); have n2_ := Aside0.mk (below_step (by repeat (first | (with_reducible first | exact HB.out | apply below_alloc | apply pw_below_drewN | apply below_drew1 | refine below_set ?_ GE681.out | refine below_set ?_ GE682.out) | exact HB.out)) hb); clear BK681; clear BK682; clear HB; have BK681 := n0_; have BK682 := n1_; have HB := n2_; clear n0_ n1_ n2_; (try clear hb); (try clear hb2); (try clear hk); (try clear hi)))
      go_meet
      case rel => exact ⟨_, (true), (by first | rfl | (simp; done) | (simp [*]; done)), H', ⟨by have := HJ7.out; first | omega | exact Nat.le_refl _⟩, ⟨by (with_reducible repeat (first | refine blk_drewN ?_ _ | refine blk_drew ?_ | refine blk_alloc ?_ _)); exact BK681.out⟩, ⟨by (with_reducible repeat (first | refine blk_drewN ?_ _ | refine blk_drew ?_ | refine blk_alloc ?_ _)); exact BK682.out⟩, ⟨by repeat (first | (with_reducible first | exact HB.out | apply below_alloc | apply pw_below_drewN | apply below_drew1 | refine below_set ?_ GE681.out | refine below_set ?_ GE682.out) | exact HB.out)⟩⟩
    case rest =>
     clear HC23
     try clear c1
     try clear c2
     try clear p2
     try clear c3
     try clear c8
     try clear c9
     try clear c10
     try clear c12
     try clear c16
     try clear c16b0
     try clear c16b1
     try clear c17
     try clear c18
     try clear c18b0
     try clear c18b1
     try clear c21
     try clear c24
     try clear c28
     try clear c30
     try clear c35
     try clear hcz25_0
     try clear hcz25_1
     try clear hcz25_2
     try clear hcz25_3
     try clear hcz25_4
     try clear hcz25_5
     try clear hcz31_0
     try clear hcz31_1
     try clear hcz31_2
     try clear hcz31_3
     try clear hcz31_4
     try clear hcz31_5
     try clear hcz33_0
     try clear hcz33_1
     try clear hcz33_2
     try clear hcz33_3
     try clear hcz33_4
     try clear hcz33_5
     try clear hcz36_0
     try clear hcz36_1
     try clear hcz36_2
     try clear hcz36_3
     try clear hcz36_4
     try clear hcz36_5
     try clear hfz25_0
     try clear hfz25_1
     try clear hfz25_2
     try clear hfz25_3
     try clear hfz25_4
     try clear hfz25_5
     try clear hfz31_0
     try clear hfz31_1
     try clear hfz31_2
     try clear hfz31_3
     try clear hfz31_4
     try clear hfz31_5
     try clear hfz33_0
     try clear hfz33_1
     try clear hfz33_2
     try clear hfz33_3
     try clear hfz33_4
     try clear hfz33_5
     try clear hfz36_0
     try clear hfz36_1
     try clear hfz36_2
     try clear hfz36_3
     try clear hfz36_4
     try clear hfz36_5
     try clear p2
     obtain ⟨kq, x58_22, rfl, HA, HJ22, BK681, BK682, HB⟩ := hcut
     cases kq with
     | zero => exact absurd HA.out (by simp [gnomonlaw08_RoundDecided.j1])
     | succ kj22 =>
      have H := HA.out
      clear HA
      simp only [gnomonlaw08_RoundDecided.j1] at H
      by_cases c38 : x58_22 = true
      ·subst c38
       have H1 : (if t700 = 2 then (if t699 = true then (some false) else (some (t698 == 0))) else (some false)) = some r := by rw [if_pos rfl] at H; exact H
       clear H
       have H := H1
       clear H1
       by_cases c39 : t700 = 2
       ·rw [if_pos c39] at H
        have c39b0 : (t700 == 2) = true := beq_iff_eq.mpr c39
        have c39b1 : (t700 != 2) = false := bne_eq_false_iff_eq.mpr c39
        clear c39
        by_cases c40 : t699 = true
        ·subst c40
         have H1 : (some false) = some r := by rw [if_pos rfl] at H; exact H
         clear H
         have H := H1
         clear H1
         obtain rfl := Option.some.inj H
         go_wp2
         go_ret
         exact ⟨by first | rfl | (simp [errW_none, errW_some] <;> rfl) | (simp [*, errW_none, errW_some] <;> rfl), by repeat (first | (with_reducible first | exact HB.out | apply below_alloc | apply pw_below_drewN | apply below_drew1 | refine below_set ?_ GE681.out | refine below_set ?_ GE682.out) | exact HB.out)⟩
        ·replace c40 := Bool.eq_false_iff.mpr c40
         subst c40
         have H1 : (some (t698 == 0)) = some r := by rw [if_neg (show ¬ (false = true) by decide)] at H; exact H
         clear H
         have H := H1
         clear H1
         obtain rfl := Option.some.inj H
         go_wp2
         go_ret
         exact ⟨by first | rfl | (simp [errW_none, errW_some] <;> rfl) | (simp [*, errW_none, errW_some] <;> rfl), by repeat (first | (with_reducible first | exact HB.out | apply below_alloc | apply pw_below_drewN | apply below_drew1 | refine below_set ?_ GE681.out | refine below_set ?_ GE682.out) | exact HB.out)⟩
       ·rw [if_neg c39] at H
        have c39b0 : (t700 == 2) = false := beq_eq_false_iff_ne.mpr c39
        have c39b1 : (t700 != 2) = true := bne_iff_ne.mpr c39
        obtain rfl := Option.some.inj H
        go_wp2
        go_ret
        exact ⟨by first | rfl | (simp [errW_none, errW_some] <;> rfl) | (simp [*, errW_none, errW_some] <;> rfl), by repeat (first | (with_reducible first | exact HB.out | apply below_alloc | apply pw_below_drewN | apply below_drew1 | refine below_set ?_ GE681.out | refine below_set ?_ GE682.out) | exact HB.out)⟩
      ·replace c38 := Bool.eq_false_iff.mpr c38
       subst c38
       have H1 : ((gnomonlaw08_at.f kj22 a1_0 l1_1 a1_2 a1_3 l1_4 a1_5).bind fun t703 => (if t703 = 1 then (if t700 = 2 then (if t699 = true then (some false) else (some (t698 == 0))) else (some false)) else ((round_Nearest.f kj22 t683 a1_0 l1_1 a1_2).bind fun bt704 => ((round_Nearest.f kj22 t683 a1_3 l1_4 a1_5).bind fun bt706 => (if t703 > 1 then (gnomonlaw08_RoundDecided.j2 kj22 t683 t698 t699 true a1_0 l1_1 a1_2 a1_3 l1_4 a1_5 a2_0 l2_1 a2_2) else (if t700 = 0 then (if bt704.2 = 0 then (if bt706.2 = 0 then (if (t699 != (bt704.1 == bt706.1)) = true then (gnomonlaw08_RoundDecided.j2 kj22 t683 t698 t699 true a1_0 l1_1 a1_2 a1_3 l1_4 a1_5 a2_0 l2_1 a2_2) else (if t699 = true then (if t698 = bt704.1 then (gnomonlaw08_RoundDecided.j2 kj22 t683 t698 t699 false a1_0 l1_1 a1_2 a1_3 l1_4 a1_5 a2_0 l2_1 a2_2) else (gnomonlaw08_RoundDecided.j2 kj22 t683 t698 t699 true a1_0 l1_1 a1_2 a1_3 l1_4 a1_5 a2_0 l2_1 a2_2)) else (gnomonlaw08_RoundDecided.j2 kj22 t683 t698 t699 (t698 != 0) a1_0 l1_1 a1_2 a1_3 l1_4 a1_5 a2_0 l2_1 a2_2))) else (gnomonlaw08_RoundDecided.j2 kj22 t683 t698 t699 true a1_0 l1_1 a1_2 a1_3 l1_4 a1_5 a2_0 l2_1 a2_2)) else (gnomonlaw08_RoundDecided.j2 kj22 t683 t698 t699 true a1_0 l1_1 a1_2 a1_3 l1_4 a1_5 a2_0 l2_1 a2_2)) else (gnomonlaw08_RoundDecided.j2 kj22 t683 t698 t699 true a1_0 l1_1 a1_2 a1_3 l1_4 a1_5 a2_0 l2_1 a2_2))))))) = some r := by rw [if_neg (show ¬ (false = true) by decide)] at H; exact H
       clear H
       have H := H1
       clear H1
       replace H := Option.bind_eq_some_iff.mp H
       obtain ⟨t703, A410, H⟩ := H
       replace H : (if t703 = 1 then (if t700 = 2 then (if t699 = true then (some false) else (some (t698 == 0))) else (some false)) else ((round_Nearest.f kj22 t683 a1_0 l1_1 a1_2).bind fun bt704 => ((round_Nearest.f kj22 t683 a1_3 l1_4 a1_5).bind fun bt706 => (if t703 > 1 then (gnomonlaw08_RoundDecided.j2 kj22 t683 t698 t699 true a1_0 l1_1 a1_2 a1_3 l1_4 a1_5 a2_0 l2_1 a2_2) else (if t700 = 0 then (if bt704.2 = 0 then (if bt706.2 = 0 then (if (t699 != (bt704.1 == bt706.1)) = true then (gnomonlaw08_RoundDecided.j2 kj22 t683 t698 t699 true a1_0 l1_1 a1_2 a1_3 l1_4 a1_5 a2_0 l2_1 a2_2) else (if t699 = true then (if t698 = bt704.1 then (gnomonlaw08_RoundDecided.j2 kj22 t683 t698 t699 false a1_0 l1_1 a1_2 a1_3 l1_4 a1_5 a2_0 l2_1 a2_2) else (gnomonlaw08_RoundDecided.j2 kj22 t683 t698 t699 true a1_0 l1_1 a1_2 a1_3 l1_4 a1_5 a2_0 l2_1 a2_2)) else (gnomonlaw08_RoundDecided.j2 kj22 t683 t698 t699 (t698 != 0) a1_0 l1_1 a1_2 a1_3 l1_4 a1_5 a2_0 l2_1 a2_2))) else (gnomonlaw08_RoundDecided.j2 kj22 t683 t698 t699 true a1_0 l1_1 a1_2 a1_3 l1_4 a1_5 a2_0 l2_1 a2_2)) else (gnomonlaw08_RoundDecided.j2 kj22 t683 t698 t699 true a1_0 l1_1 a1_2 a1_3 l1_4 a1_5 a2_0 l2_1 a2_2)) else (gnomonlaw08_RoundDecided.j2 kj22 t683 t698 t699 true a1_0 l1_1 a1_2 a1_3 l1_4 a1_5 a2_0 l2_1 a2_2)))))) = some r := H
       have A41 := Aside0.mk A410
       clear A410
       by_cases c42 : t703 = 1
       ·rw [if_pos c42] at H
        have c42b0 : (t703 == 1) = true := beq_iff_eq.mpr c42
        have c42b1 : (t703 != 1) = false := bne_eq_false_iff_eq.mpr c42
        clear c42
        by_cases c43 : t700 = 2
        ·rw [if_pos c43] at H
         have c43b0 : (t700 == 2) = true := beq_iff_eq.mpr c43
         have c43b1 : (t700 != 2) = false := bne_eq_false_iff_eq.mpr c43
         clear c43
         by_cases c44 : t699 = true
         ·subst c44
          have H1 : (some false) = some r := by rw [if_pos rfl] at H; exact H
          clear H
          have H := H1
          clear H1
          obtain rfl := Option.some.inj H
          have hnb45 := NB681_682.out
          have hnc45 := NB682_681.out
          have hcz46_0 : wc.cell? ⟨gb681, 0, none⟩ = some (.bool a1_0) := (blk_cell BK681.out 0).trans rfl
          have hcz46_1 : wc.cell? ⟨gb681, 1, none⟩ = some (.slice A1_1 l1_1.length c1_1) := (blk_cell BK681.out 1).trans rfl
          have hcz46_2 : wc.cell? ⟨gb681, 2, none⟩ = some (.int .i64 a1_2) := (blk_cell BK681.out 2).trans rfl
          have hcz46_3 : wc.cell? ⟨gb681, 3, none⟩ = some (.bool a1_3) := (blk_cell BK681.out 3).trans rfl
          have hcz46_4 : wc.cell? ⟨gb681, 4, none⟩ = some (.slice A1_4 l1_4.length c1_4) := (blk_cell BK681.out 4).trans rfl
          have hcz46_5 : wc.cell? ⟨gb681, 5, none⟩ = some (.int .i64 a1_5) := (blk_cell BK681.out 5).trans rfl
          have hfz46_0 := blk_frozen BK681.out 0
          have hfz46_1 := blk_frozen BK681.out 1
          have hfz46_2 := blk_frozen BK681.out 2
          have hfz46_3 := blk_frozen BK681.out 3
          have hfz46_4 := blk_frozen BK681.out 4
          have hfz46_5 := blk_frozen BK681.out 5
          go_wp2_with (first | ((with_reducible refine gate_callee (f := 13) rfl ?_); refine goesL_ (some 73) rfl rfl Tryd.func13 (by kernel_rfl) rfl #[.agg #[.bool a1_0, .slice A1_1 l1_1.length c1_1, .int .i64 a1_2], .agg #[.bool a1_3, .slice A1_4 l1_4.length c1_4, .int .i64 a1_5]] rfl (by (try simp only [List.map_toArray, List.map_cons, List.map_nil]); first | done | rfl | (simp only [List.length_drop, List.length_take]; rfl)) ?_; (with_reducible refine (gnomonlaw08_at.calls kj22 a1_0 _ _ l1_1 a1_2 a1_3 _ _ l1_4 a1_5 t703 _ ?side1 ?side2 ?side3 ?side4 A41.out).mono ?_); (case side1 => repeat (first | exact (Kd.C_below HR1_1.out HB.out) | (with_reducible refine Kd.C_alloc ?_ _) | (with_reducible refine Kd.C_drewN ?_ _) | (with_reducible refine Kd.C_drew ?_))); (case side2 => exact HC1_1.out); (case side3 => repeat (first | exact (Kd.C_below HR1_4.out HB.out) | (with_reducible refine Kd.C_alloc ?_ _) | (with_reducible refine Kd.C_drewN ?_ _) | (with_reducible refine Kd.C_drew ?_))); (case side4 => exact HC1_4.out); rintro e w47 ⟨rfl, hb⟩; refine ⟨_, rfl, ?_⟩; have n0_ := Aside0.mk (blk_below (g := gb681) (o := .cells #[.bool a1_0, .slice A1_1 l1_1.length c1_1, .int .i64 a1_2, .bool a1_3, .slice A1_4 l1_4.length c1_4, .int .i64 a1_5] 28 (0, 0)) (by (with_reducible repeat (first | refine blk_drewN ?_ _ | refine blk_drew ?_ | refine blk_alloc ?_ _)); exact BK681.out) hb); have n1_ := Aside0.mk (blk_below (g := gb682) (o := .cells #[.bool a2_0, .slice A2_1 l2_1.length c2_1, .int .i64 a2_2] 26 (0, 0)) (by (with_reducible repeat (first | refine blk_drewN ?_ _ | refine blk_drew ?_ | refine blk_alloc ?_ _)); exact BK682.out) hb); have n2_ := Aside0.mk (below_step (by repeat (first | (with_reducible first | exact HB.out | apply below_alloc | apply pw_below_drewN | apply below_drew1 | refine below_set ?_ GE681.out | refine below_set ?_ GE682.out) | exact HB.out)) hb); clear BK681; clear BK682; clear HB; have BK681 := n0_; have BK682 := n1_; have HB := n2_; clear n0_ n1_ n2_; (try clear hb); (try clear hb2); (try clear hk); (try clear hi)))
          go_ret
          exact ⟨by first | rfl | (simp [errW_none, errW_some] <;> rfl) | (simp [*, errW_none, errW_some] <;> rfl), by repeat (first | (with_reducible first | exact HB.out | apply below_alloc | apply pw_below_drewN | apply below_drew1 | refine below_set ?_ GE681.out | refine below_set ?_ GE682.out) | exact HB.out)⟩
         ·replace c44 := Bool.eq_false_iff.mpr c44
          subst c44
          have H1 : (some (t698 == 0)) = some r := by rw [if_neg (show ¬ (false = true) by decide)] at H; exact H
          clear H
          have H := H1
          clear H1
          obtain rfl := Option.some.inj H
          have hnb48 := NB681_682.out
          have hnc48 := NB682_681.out
          have hcz49_0 : wc.cell? ⟨gb681, 0, none⟩ = some (.bool a1_0) := (blk_cell BK681.out 0).trans rfl
          have hcz49_1 : wc.cell? ⟨gb681, 1, none⟩ = some (.slice A1_1 l1_1.length c1_1) := (blk_cell BK681.out 1).trans rfl
          have hcz49_2 : wc.cell? ⟨gb681, 2, none⟩ = some (.int .i64 a1_2) := (blk_cell BK681.out 2).trans rfl
          have hcz49_3 : wc.cell? ⟨gb681, 3, none⟩ = some (.bool a1_3) := (blk_cell BK681.out 3).trans rfl
          have hcz49_4 : wc.cell? ⟨gb681, 4, none⟩ = some (.slice A1_4 l1_4.length c1_4) := (blk_cell BK681.out 4).trans rfl
          have hcz49_5 : wc.cell? ⟨gb681, 5, none⟩ = some (.int .i64 a1_5) := (blk_cell BK681.out 5).trans rfl
          have hfz49_0 := blk_frozen BK681.out 0
          have hfz49_1 := blk_frozen BK681.out 1
          have hfz49_2 := blk_frozen BK681.out 2
          have hfz49_3 := blk_frozen BK681.out 3
          have hfz49_4 := blk_frozen BK681.out 4
          have hfz49_5 := blk_frozen BK681.out 5
          go_wp2_with (first | ((with_reducible refine gate_callee (f := 13) rfl ?_); refine goesL_ (some 73) rfl rfl Tryd.func13 (by kernel_rfl) rfl #[.agg #[.bool a1_0, .slice A1_1 l1_1.length c1_1, .int .i64 a1_2], .agg #[.bool a1_3, .slice A1_4 l1_4.length c1_4, .int .i64 a1_5]] rfl (by (try simp only [List.map_toArray, List.map_cons, List.map_nil]); first | done | rfl | (simp only [List.length_drop, List.length_take]; rfl)) ?_; (with_reducible refine (gnomonlaw08_at.calls kj22 a1_0 _ _ l1_1 a1_2 a1_3 _ _ l1_4 a1_5 t703 _ ?side1 ?side2 ?side3 ?side4 A41.out).mono ?_); (case side1 => repeat (first | exact (Kd.C_below HR1_1.out HB.out) | (with_reducible refine Kd.C_alloc ?_ _) | (with_reducible refine Kd.C_drewN ?_ _) | (with_reducible refine Kd.C_drew ?_))); (case side2 => exact HC1_1.out); (case side3 => repeat (first | exact (Kd.C_below HR1_4.out HB.out) | (with_reducible refine Kd.C_alloc ?_ _) | (with_reducible refine Kd.C_drewN ?_ _) | (with_reducible refine Kd.C_drew ?_))); (case side4 => exact HC1_4.out); rintro e w50 ⟨rfl, hb⟩; refine ⟨_, rfl, ?_⟩; have n0_ := Aside0.mk (blk_below (g := gb681) (o := .cells #[.bool a1_0, .slice A1_1 l1_1.length c1_1, .int .i64 a1_2, .bool a1_3, .slice A1_4 l1_4.length c1_4, .int .i64 a1_5] 28 (0, 0)) (by (with_reducible repeat (first | refine blk_drewN ?_ _ | refine blk_drew ?_ | refine blk_alloc ?_ _)); exact BK681.out) hb); have n1_ := Aside0.mk (blk_below (g := gb682) (o := .cells #[.bool a2_0, .slice A2_1 l2_1.length c2_1, .int .i64 a2_2] 26 (0, 0)) (by (with_reducible repeat (first | refine blk_drewN ?_ _ | refine blk_drew ?_ | refine blk_alloc ?_ _)); exact BK682.out) hb); have n2_ := Aside0.mk (below_step (by repeat (first | (with_reducible first | exact HB.out | apply below_alloc | apply pw_below_drewN | apply below_drew1 | refine below_set ?_ GE681.out | refine below_set ?_ GE682.out) | exact HB.out)) hb); clear BK681; clear BK682; clear HB; have BK681 := n0_; have BK682 := n1_; have HB := n2_; clear n0_ n1_ n2_; (try clear hb); (try clear hb2); (try clear hk); (try clear hi)))
          go_ret
          exact ⟨by first | rfl | (simp [errW_none, errW_some] <;> rfl) | (simp [*, errW_none, errW_some] <;> rfl), by repeat (first | (with_reducible first | exact HB.out | apply below_alloc | apply pw_below_drewN | apply below_drew1 | refine below_set ?_ GE681.out | refine below_set ?_ GE682.out) | exact HB.out)⟩
        ·rw [if_neg c43] at H
         have c43b0 : (t700 == 2) = false := beq_eq_false_iff_ne.mpr c43
         have c43b1 : (t700 != 2) = true := bne_iff_ne.mpr c43
         obtain rfl := Option.some.inj H
         have hnb51 := NB681_682.out
         have hnc51 := NB682_681.out
         have hcz52_0 : wc.cell? ⟨gb681, 0, none⟩ = some (.bool a1_0) := (blk_cell BK681.out 0).trans rfl
         have hcz52_1 : wc.cell? ⟨gb681, 1, none⟩ = some (.slice A1_1 l1_1.length c1_1) := (blk_cell BK681.out 1).trans rfl
         have hcz52_2 : wc.cell? ⟨gb681, 2, none⟩ = some (.int .i64 a1_2) := (blk_cell BK681.out 2).trans rfl
         have hcz52_3 : wc.cell? ⟨gb681, 3, none⟩ = some (.bool a1_3) := (blk_cell BK681.out 3).trans rfl
         have hcz52_4 : wc.cell? ⟨gb681, 4, none⟩ = some (.slice A1_4 l1_4.length c1_4) := (blk_cell BK681.out 4).trans rfl
         have hcz52_5 : wc.cell? ⟨gb681, 5, none⟩ = some (.int .i64 a1_5) := (blk_cell BK681.out 5).trans rfl
         have hfz52_0 := blk_frozen BK681.out 0
         have hfz52_1 := blk_frozen BK681.out 1
         have hfz52_2 := blk_frozen BK681.out 2
         have hfz52_3 := blk_frozen BK681.out 3
         have hfz52_4 := blk_frozen BK681.out 4
         have hfz52_5 := blk_frozen BK681.out 5
         go_wp2_with (first | ((with_reducible refine gate_callee (f := 13) rfl ?_); refine goesL_ (some 73) rfl rfl Tryd.func13 (by kernel_rfl) rfl #[.agg #[.bool a1_0, .slice A1_1 l1_1.length c1_1, .int .i64 a1_2], .agg #[.bool a1_3, .slice A1_4 l1_4.length c1_4, .int .i64 a1_5]] rfl (by (try simp only [List.map_toArray, List.map_cons, List.map_nil]); first | done | rfl | (simp only [List.length_drop, List.length_take]; rfl)) ?_; (with_reducible refine (gnomonlaw08_at.calls kj22 a1_0 _ _ l1_1 a1_2 a1_3 _ _ l1_4 a1_5 t703 _ ?side1 ?side2 ?side3 ?side4 A41.out).mono ?_); (case side1 => repeat (first | exact (Kd.C_below HR1_1.out HB.out) | (with_reducible refine Kd.C_alloc ?_ _) | (with_reducible refine Kd.C_drewN ?_ _) | (with_reducible refine Kd.C_drew ?_))); (case side2 => exact HC1_1.out); (case side3 => repeat (first | exact (Kd.C_below HR1_4.out HB.out) | (with_reducible refine Kd.C_alloc ?_ _) | (with_reducible refine Kd.C_drewN ?_ _) | (with_reducible refine Kd.C_drew ?_))); (case side4 => exact HC1_4.out); rintro e w53 ⟨rfl, hb⟩; refine ⟨_, rfl, ?_⟩; have n0_ := Aside0.mk (blk_below (g := gb681) (o := .cells #[.bool a1_0, .slice A1_1 l1_1.length c1_1, .int .i64 a1_2, .bool a1_3, .slice A1_4 l1_4.length c1_4, .int .i64 a1_5] 28 (0, 0)) (by (with_reducible repeat (first | refine blk_drewN ?_ _ | refine blk_drew ?_ | refine blk_alloc ?_ _)); exact BK681.out) hb); have n1_ := Aside0.mk (blk_below (g := gb682) (o := .cells #[.bool a2_0, .slice A2_1 l2_1.length c2_1, .int .i64 a2_2] 26 (0, 0)) (by (with_reducible repeat (first | refine blk_drewN ?_ _ | refine blk_drew ?_ | refine blk_alloc ?_ _)); exact BK682.out) hb); have n2_ := Aside0.mk (below_step (by repeat (first | (with_reducible first | exact HB.out | apply below_alloc | apply pw_below_drewN | apply below_drew1 | refine below_set ?_ GE681.out | refine below_set ?_ GE682.out) | exact HB.out)) hb); clear BK681; clear BK682; clear HB; have BK681 := n0_; have BK682 := n1_; have HB := n2_; clear n0_ n1_ n2_; (try clear hb); (try clear hb2); (try clear hk); (try clear hi)))
         go_ret
         exact ⟨by first | rfl | (simp [errW_none, errW_some] <;> rfl) | (simp [*, errW_none, errW_some] <;> rfl), by repeat (first | (with_reducible first | exact HB.out | apply below_alloc | apply pw_below_drewN | apply below_drew1 | refine below_set ?_ GE681.out | refine below_set ?_ GE682.out) | exact HB.out)⟩
       ·rw [if_neg c42] at H
        have c42b0 : (t703 == 1) = false := beq_eq_false_iff_ne.mpr c42
        have c42b1 : (t703 != 1) = true := bne_iff_ne.mpr c42
        replace H := Option.bind_eq_some_iff.mp H
        obtain ⟨⟨t704, t705⟩, A540, H⟩ := H
        replace H : ((round_Nearest.f kj22 t683 a1_3 l1_4 a1_5).bind fun bt706 => (if t703 > 1 then (gnomonlaw08_RoundDecided.j2 kj22 t683 t698 t699 true a1_0 l1_1 a1_2 a1_3 l1_4 a1_5 a2_0 l2_1 a2_2) else (if t700 = 0 then (if t705 = 0 then (if bt706.2 = 0 then (if (t699 != (t704 == bt706.1)) = true then (gnomonlaw08_RoundDecided.j2 kj22 t683 t698 t699 true a1_0 l1_1 a1_2 a1_3 l1_4 a1_5 a2_0 l2_1 a2_2) else (if t699 = true then (if t698 = t704 then (gnomonlaw08_RoundDecided.j2 kj22 t683 t698 t699 false a1_0 l1_1 a1_2 a1_3 l1_4 a1_5 a2_0 l2_1 a2_2) else (gnomonlaw08_RoundDecided.j2 kj22 t683 t698 t699 true a1_0 l1_1 a1_2 a1_3 l1_4 a1_5 a2_0 l2_1 a2_2)) else (gnomonlaw08_RoundDecided.j2 kj22 t683 t698 t699 (t698 != 0) a1_0 l1_1 a1_2 a1_3 l1_4 a1_5 a2_0 l2_1 a2_2))) else (gnomonlaw08_RoundDecided.j2 kj22 t683 t698 t699 true a1_0 l1_1 a1_2 a1_3 l1_4 a1_5 a2_0 l2_1 a2_2)) else (gnomonlaw08_RoundDecided.j2 kj22 t683 t698 t699 true a1_0 l1_1 a1_2 a1_3 l1_4 a1_5 a2_0 l2_1 a2_2)) else (gnomonlaw08_RoundDecided.j2 kj22 t683 t698 t699 true a1_0 l1_1 a1_2 a1_3 l1_4 a1_5 a2_0 l2_1 a2_2)))) = some r := H
        have A54 := Aside0.mk A540
        clear A540
        replace H := Option.bind_eq_some_iff.mp H
        obtain ⟨⟨t706, t707⟩, A550, H⟩ := H
        replace H : (if t703 > 1 then (gnomonlaw08_RoundDecided.j2 kj22 t683 t698 t699 true a1_0 l1_1 a1_2 a1_3 l1_4 a1_5 a2_0 l2_1 a2_2) else (if t700 = 0 then (if t705 = 0 then (if t707 = 0 then (if (t699 != (t704 == t706)) = true then (gnomonlaw08_RoundDecided.j2 kj22 t683 t698 t699 true a1_0 l1_1 a1_2 a1_3 l1_4 a1_5 a2_0 l2_1 a2_2) else (if t699 = true then (if t698 = t704 then (gnomonlaw08_RoundDecided.j2 kj22 t683 t698 t699 false a1_0 l1_1 a1_2 a1_3 l1_4 a1_5 a2_0 l2_1 a2_2) else (gnomonlaw08_RoundDecided.j2 kj22 t683 t698 t699 true a1_0 l1_1 a1_2 a1_3 l1_4 a1_5 a2_0 l2_1 a2_2)) else (gnomonlaw08_RoundDecided.j2 kj22 t683 t698 t699 (t698 != 0) a1_0 l1_1 a1_2 a1_3 l1_4 a1_5 a2_0 l2_1 a2_2))) else (gnomonlaw08_RoundDecided.j2 kj22 t683 t698 t699 true a1_0 l1_1 a1_2 a1_3 l1_4 a1_5 a2_0 l2_1 a2_2)) else (gnomonlaw08_RoundDecided.j2 kj22 t683 t698 t699 true a1_0 l1_1 a1_2 a1_3 l1_4 a1_5 a2_0 l2_1 a2_2)) else (gnomonlaw08_RoundDecided.j2 kj22 t683 t698 t699 true a1_0 l1_1 a1_2 a1_3 l1_4 a1_5 a2_0 l2_1 a2_2))) = some r := H
        have A55 := Aside0.mk A550
        clear A550
        have HC56 := Aside0.mk H
        clear H
        have hnb57 := NB681_682.out
        have hnc57 := NB682_681.out
        have hcz58_0 : wc.cell? ⟨gb681, 0, none⟩ = some (.bool a1_0) := (blk_cell BK681.out 0).trans rfl
        have hcz58_1 : wc.cell? ⟨gb681, 1, none⟩ = some (.slice A1_1 l1_1.length c1_1) := (blk_cell BK681.out 1).trans rfl
        have hcz58_2 : wc.cell? ⟨gb681, 2, none⟩ = some (.int .i64 a1_2) := (blk_cell BK681.out 2).trans rfl
        have hcz58_3 : wc.cell? ⟨gb681, 3, none⟩ = some (.bool a1_3) := (blk_cell BK681.out 3).trans rfl
        have hcz58_4 : wc.cell? ⟨gb681, 4, none⟩ = some (.slice A1_4 l1_4.length c1_4) := (blk_cell BK681.out 4).trans rfl
        have hcz58_5 : wc.cell? ⟨gb681, 5, none⟩ = some (.int .i64 a1_5) := (blk_cell BK681.out 5).trans rfl
        have hfz58_0 := blk_frozen BK681.out 0
        have hfz58_1 := blk_frozen BK681.out 1
        have hfz58_2 := blk_frozen BK681.out 2
        have hfz58_3 := blk_frozen BK681.out 3
        have hfz58_4 := blk_frozen BK681.out 4
        have hfz58_5 := blk_frozen BK681.out 5
        go_upto_region 13 with (first | ((with_reducible refine gate_callee (f := 13) rfl ?_); refine goesL_ (some 73) rfl rfl Tryd.func13 (by kernel_rfl) rfl #[.agg #[.bool a1_0, .slice A1_1 l1_1.length c1_1, .int .i64 a1_2], .agg #[.bool a1_3, .slice A1_4 l1_4.length c1_4, .int .i64 a1_5]] rfl (by (try simp only [List.map_toArray, List.map_cons, List.map_nil]); first | done | rfl | (simp only [List.length_drop, List.length_take]; rfl)) ?_; (with_reducible refine (gnomonlaw08_at.calls kj22 a1_0 _ _ l1_1 a1_2 a1_3 _ _ l1_4 a1_5 t703 _ ?side1 ?side2 ?side3 ?side4 A41.out).mono ?_); (case side1 => repeat (first | exact (Kd.C_below HR1_1.out HB.out) | (with_reducible refine Kd.C_alloc ?_ _) | (with_reducible refine Kd.C_drewN ?_ _) | (with_reducible refine Kd.C_drew ?_))); (case side2 => exact HC1_1.out); (case side3 => repeat (first | exact (Kd.C_below HR1_4.out HB.out) | (with_reducible refine Kd.C_alloc ?_ _) | (with_reducible refine Kd.C_drewN ?_ _) | (with_reducible refine Kd.C_drew ?_))); (case side4 => exact HC1_4.out); rintro e w59 ⟨rfl, hb⟩; refine ⟨_, rfl, ?_⟩; have n0_ := Aside0.mk (blk_below (g := gb681) (o := .cells #[.bool a1_0, .slice A1_1 l1_1.length c1_1, .int .i64 a1_2, .bool a1_3, .slice A1_4 l1_4.length c1_4, .int .i64 a1_5] 28 (0, 0)) (by (with_reducible repeat (first | refine blk_drewN ?_ _ | refine blk_drew ?_ | refine blk_alloc ?_ _)); exact BK681.out) hb); have n1_ := Aside0.mk (blk_below (g := gb682) (o := .cells #[.bool a2_0, .slice A2_1 l2_1.length c2_1, .int .i64 a2_2] 26 (0, 0)) (by (with_reducible repeat (first | refine blk_drewN ?_ _ | refine blk_drew ?_ | refine blk_alloc ?_ _)); exact BK682.out) hb); have n2_ := Aside0.mk (below_step (by repeat (first | (with_reducible first | exact HB.out | apply below_alloc | apply pw_below_drewN | apply below_drew1 | refine below_set ?_ GE681.out | refine below_set ?_ GE682.out) | exact HB.out)) hb); clear BK681; clear BK682; clear HB; have BK681 := n0_; have BK682 := n1_; have HB := n2_; clear n0_ n1_ n2_; (try clear hb); (try clear hb2); (try clear hk); (try clear hi); have hcz60_0 : w59.cell? ⟨gb681, 0, none⟩ = some (.bool a1_0) := (blk_cell BK681.out 0).trans rfl; have hcz60_1 : w59.cell? ⟨gb681, 1, none⟩ = some (.slice A1_1 l1_1.length c1_1) := (blk_cell BK681.out 1).trans rfl; have hcz60_2 : w59.cell? ⟨gb681, 2, none⟩ = some (.int .i64 a1_2) := (blk_cell BK681.out 2).trans rfl; have hcz60_3 : w59.cell? ⟨gb681, 3, none⟩ = some (.bool a1_3) := (blk_cell BK681.out 3).trans rfl; have hcz60_4 : w59.cell? ⟨gb681, 4, none⟩ = some (.slice A1_4 l1_4.length c1_4) := (blk_cell BK681.out 4).trans rfl; have hcz60_5 : w59.cell? ⟨gb681, 5, none⟩ = some (.int .i64 a1_5) := (blk_cell BK681.out 5).trans rfl; have hfz60_0 := blk_frozen BK681.out 0; have hfz60_1 := blk_frozen BK681.out 1; have hfz60_2 := blk_frozen BK681.out 2; have hfz60_3 := blk_frozen BK681.out 3; have hfz60_4 := blk_frozen BK681.out 4; have hfz60_5 := blk_frozen BK681.out 5) | ((with_reducible refine gate_callee (f := 14) rfl ?_); refine goesL_ (some 90) rfl rfl Tryd.func14 (by kernel_rfl) rfl #[.int .i64 t683, .agg #[.bool a1_0, .slice A1_1 l1_1.length c1_1, .int .i64 a1_2]] rfl (by (try simp only [List.map_toArray, List.map_cons, List.map_nil]); first | done | rfl | (simp only [List.length_drop, List.length_take]; rfl)) ?_; (with_reducible refine (round_Nearest.calls kj22 t683 a1_0 _ _ l1_1 a1_2 t704 t705 _ ?side1 ?side2 ?side3 A54.out).mono ?_); (case side1 => repeat (first | exact (Kd.C_below HR1_1.out HB.out) | (with_reducible refine Kd.C_alloc ?_ _) | (with_reducible refine Kd.C_drewN ?_ _) | (with_reducible refine Kd.C_drew ?_))); (case side2 => exact HC1_1.out); (case side3 => exact Tab.next hT (by repeat (first | (with_reducible first | exact HB.out | apply below_alloc | apply pw_below_drewN | apply below_drew1 | refine below_set ?_ GE681.out | refine below_set ?_ GE682.out) | exact HB.out))); rintro e w61 ⟨rfl, hb⟩; refine ⟨_, rfl, ?_⟩; have n0_ := Aside0.mk (blk_below (g := gb681) (o := .cells #[.bool a1_0, .slice A1_1 l1_1.length c1_1, .int .i64 a1_2, .bool a1_3, .slice A1_4 l1_4.length c1_4, .int .i64 a1_5] 28 (0, 0)) (by (with_reducible repeat (first | refine blk_drewN ?_ _ | refine blk_drew ?_ | refine blk_alloc ?_ _)); exact BK681.out) hb); have n1_ := Aside0.mk (blk_below (g := gb682) (o := .cells #[.bool a2_0, .slice A2_1 l2_1.length c2_1, .int .i64 a2_2] 26 (0, 0)) (by (with_reducible repeat (first | refine blk_drewN ?_ _ | refine blk_drew ?_ | refine blk_alloc ?_ _)); exact BK682.out) hb); have n2_ := Aside0.mk (below_step (by repeat (first | (with_reducible first | exact HB.out | apply below_alloc | apply pw_below_drewN | apply below_drew1 | refine below_set ?_ GE681.out | refine below_set ?_ GE682.out) | exact HB.out)) hb); clear BK681; clear BK682; clear HB; have BK681 := n0_; have BK682 := n1_; have HB := n2_; clear n0_ n1_ n2_; (try clear hb); (try clear hb2); (try clear hk); (try clear hi); have hcz62_0 : w61.cell? ⟨gb681, 0, none⟩ = some (.bool a1_0) := (blk_cell BK681.out 0).trans rfl; have hcz62_1 : w61.cell? ⟨gb681, 1, none⟩ = some (.slice A1_1 l1_1.length c1_1) := (blk_cell BK681.out 1).trans rfl; have hcz62_2 : w61.cell? ⟨gb681, 2, none⟩ = some (.int .i64 a1_2) := (blk_cell BK681.out 2).trans rfl; have hcz62_3 : w61.cell? ⟨gb681, 3, none⟩ = some (.bool a1_3) := (blk_cell BK681.out 3).trans rfl; have hcz62_4 : w61.cell? ⟨gb681, 4, none⟩ = some (.slice A1_4 l1_4.length c1_4) := (blk_cell BK681.out 4).trans rfl; have hcz62_5 : w61.cell? ⟨gb681, 5, none⟩ = some (.int .i64 a1_5) := (blk_cell BK681.out 5).trans rfl; have hfz62_0 := blk_frozen BK681.out 0; have hfz62_1 := blk_frozen BK681.out 1; have hfz62_2 := blk_frozen BK681.out 2; have hfz62_3 := blk_frozen BK681.out 3; have hfz62_4 := blk_frozen BK681.out 4; have hfz62_5 := blk_frozen BK681.out 5) | ((with_reducible refine gate_callee (f := 14) rfl ?_); refine goesL_ (some 97) rfl rfl Tryd.func14 (by kernel_rfl) rfl #[.int .i64 t683, .agg #[.bool a1_3, .slice A1_4 l1_4.length c1_4, .int .i64 a1_5]] rfl (by (try simp only [List.map_toArray, List.map_cons, List.map_nil]); first | done | rfl | (simp only [List.length_drop, List.length_take]; rfl)) ?_; (with_reducible refine (round_Nearest.calls kj22 t683 a1_3 _ _ l1_4 a1_5 t706 t707 _ ?side1 ?side2 ?side3 A55.out).mono ?_); (case side1 => repeat (first | exact (Kd.C_below HR1_4.out HB.out) | (with_reducible refine Kd.C_alloc ?_ _) | (with_reducible refine Kd.C_drewN ?_ _) | (with_reducible refine Kd.C_drew ?_))); (case side2 => exact HC1_4.out); (case side3 => exact Tab.next hT (by repeat (first | (with_reducible first | exact HB.out | apply below_alloc | apply pw_below_drewN | apply below_drew1 | refine below_set ?_ GE681.out | refine below_set ?_ GE682.out) | exact HB.out))); rintro e w63 ⟨rfl, hb⟩; refine ⟨_, rfl, ?_⟩; have n0_ := Aside0.mk (blk_below (g := gb681) (o := .cells #[.bool a1_0, .slice A1_1 l1_1.length c1_1, .int .i64 a1_2, .bool a1_3, .slice A1_4 l1_4.length c1_4, .int .i64 a1_5] 28 (0, 0)) (by (with_reducible repeat (first | refine blk_drewN ?_ _ | refine blk_drew ?_ | refine blk_alloc ?_ _)); exact BK681.out) hb); have n1_ := Aside0.mk (blk_below (g := gb682) (o := .cells #[.bool a2_0, .slice A2_1 l2_1.length c2_1, .int .i64 a2_2] 26 (0, 0)) (by (with_reducible repeat (first | refine blk_drewN ?_ _ | refine blk_drew ?_ | refine blk_alloc ?_ _)); exact BK682.out) hb); have n2_ := Aside0.mk (below_step (by repeat (first | (with_reducible first | exact HB.out | apply below_alloc | apply pw_below_drewN | apply below_drew1 | refine below_set ?_ GE681.out | refine below_set ?_ GE682.out) | exact HB.out)) hb); clear BK681; clear BK682; clear HB; have BK681 := n0_; have BK682 := n1_; have HB := n2_; clear n0_ n1_ n2_; (try clear hb); (try clear hb2); (try clear hk); (try clear hi)))
        (try simp only [Act.put, List.setIfInBounds_toArray, List.set_cons_zero, List.set_cons_succ])
        go_cut [136] (fun v136 wc => ∃ (kq : Nat) (x136_55 : Bool), v136 = .bool x136_55 ∧ Aside0 (gnomonlaw08_RoundDecided.j2 kq t683 t698 t699 x136_55 a1_0 l1_1 a1_2 a1_3 l1_4 a1_5 a2_0 l2_1 a2_2 = some r) ∧ Aside0 (kq ≤ kj22) ∧ Aside0 (wc.heap[gb681]? = some (.cells #[.bool a1_0, (.slice A1_1 l1_1.length c1_1), .int .i64 a1_2, .bool a1_3, (.slice A1_4 l1_4.length c1_4), .int .i64 a1_5] 28 (0, 0))) ∧ Aside0 (wc.heap[gb682]? = some (.cells #[.bool a2_0, (.slice A2_1 l2_1.length c2_1), .int .i64 a2_2] 26 (0, 0))) ∧ Aside0 (Below w.heap.size w wc))
        case first =>
         have H := HC56.out
         clear HC56
         by_cases c64 : t703 > 1
         ·rw [if_pos c64] at H
          have c64b0 : decide (1 < t703) = true := decide_eq_true c64
          clear c64
          (first | rw [c64b0] | (simp only [i64_w, i32_w]; rw [c64b0]) | skip)
          have H' := Aside0.mk H
          clear H
          go_wp2
          go_meet
          case rel => exact ⟨_, (true), (by first | rfl | (simp; done) | (simp [*]; done)), H', ⟨by have := HJ7.out; have := HJ22.out; first | omega | exact Nat.le_refl _⟩, ⟨by (with_reducible repeat (first | refine blk_drewN ?_ _ | refine blk_drew ?_ | refine blk_alloc ?_ _)); exact BK681.out⟩, ⟨by (with_reducible repeat (first | refine blk_drewN ?_ _ | refine blk_drew ?_ | refine blk_alloc ?_ _)); exact BK682.out⟩, ⟨by repeat (first | (with_reducible first | exact HB.out | apply below_alloc | apply pw_below_drewN | apply below_drew1 | refine below_set ?_ GE681.out | refine below_set ?_ GE682.out) | exact HB.out)⟩⟩
         ·rw [if_neg c64] at H
          have c64b0 : decide (1 < t703) = false := decide_eq_false c64
          clear c64
          (first | rw [c64b0] | (simp only [i64_w, i32_w]; rw [c64b0]) | skip)
          by_cases c65 : t700 = 0
          ·rw [if_pos c65] at H
           have c65b0 : (t700 == 0) = true := beq_iff_eq.mpr c65
           have c65b1 : (t700 != 0) = false := bne_eq_false_iff_eq.mpr c65
           clear c65
           by_cases c66 : t705 = 0
           ·rw [if_pos c66] at H
            have c66b0 : (t705 == 0) = true := beq_iff_eq.mpr c66
            have c66b1 : (t705 != 0) = false := bne_eq_false_iff_eq.mpr c66
            clear c66
            by_cases c67 : t707 = 0
            ·rw [if_pos c67] at H
             have c67b0 : (t707 == 0) = true := beq_iff_eq.mpr c67
             have c67b1 : (t707 != 0) = false := bne_eq_false_iff_eq.mpr c67
             clear c67
             by_cases c68 : (t699 != (t704 == t706)) = true
             ·rw [if_pos c68] at H
              have c68b0 : (t699 != (t704 == t706)) = true := c68
              (try (have c68b1 : decide (t699 = (t704 == t706)) = false := by simpa using c68))
              (try (have c68b2 : (t699 == (t704 == t706)) = false := by simpa using c68))
              (try (have c68b3 : ¬ (t699 = (t704 == t706)) := by simpa using c68))
              clear c68
              have H' := Aside0.mk H
              clear H
              go_wp2
              go_meet
              case rel => exact ⟨_, (true), (by first | rfl | (simp; done) | (simp [*]; done)), H', ⟨by have := HJ7.out; have := HJ22.out; first | omega | exact Nat.le_refl _⟩, ⟨by (with_reducible repeat (first | refine blk_drewN ?_ _ | refine blk_drew ?_ | refine blk_alloc ?_ _)); exact BK681.out⟩, ⟨by (with_reducible repeat (first | refine blk_drewN ?_ _ | refine blk_drew ?_ | refine blk_alloc ?_ _)); exact BK682.out⟩, ⟨by repeat (first | (with_reducible first | exact HB.out | apply below_alloc | apply pw_below_drewN | apply below_drew1 | refine below_set ?_ GE681.out | refine below_set ?_ GE682.out) | exact HB.out)⟩⟩
             ·rw [if_neg c68] at H
              have c68b0 : (t699 != (t704 == t706)) = false := by simpa using c68
              (try (have c68b1 : decide (t699 = (t704 == t706)) = true := by simpa using c68))
              (try (have c68b2 : (t699 == (t704 == t706)) = true := by simpa using c68))
              clear c68
              by_cases c69 : t699 = true
              ·subst c69
               have H1 : (if t698 = t704 then (gnomonlaw08_RoundDecided.j2 kj22 t683 t698 true false a1_0 l1_1 a1_2 a1_3 l1_4 a1_5 a2_0 l2_1 a2_2) else (gnomonlaw08_RoundDecided.j2 kj22 t683 t698 true true a1_0 l1_1 a1_2 a1_3 l1_4 a1_5 a2_0 l2_1 a2_2)) = some r := by rw [if_pos rfl] at H; exact H
               clear H
               have H := H1
               clear H1
               by_cases c70 : t698 = t704
               ·rw [if_pos c70] at H
                have c70b0 : (t698 == t704) = true := beq_iff_eq.mpr c70
                have c70b1 : (t698 != t704) = false := bne_eq_false_iff_eq.mpr c70
                clear c70
                have H' := Aside0.mk H
                clear H
                go_wp2
                go_meet
                case rel => exact ⟨_, (false), (by first | rfl | (simp; done) | (simp [*]; done)), H', ⟨by have := HJ7.out; have := HJ22.out; first | omega | exact Nat.le_refl _⟩, ⟨by (with_reducible repeat (first | refine blk_drewN ?_ _ | refine blk_drew ?_ | refine blk_alloc ?_ _)); exact BK681.out⟩, ⟨by (with_reducible repeat (first | refine blk_drewN ?_ _ | refine blk_drew ?_ | refine blk_alloc ?_ _)); exact BK682.out⟩, ⟨by repeat (first | (with_reducible first | exact HB.out | apply below_alloc | apply pw_below_drewN | apply below_drew1 | refine below_set ?_ GE681.out | refine below_set ?_ GE682.out) | exact HB.out)⟩⟩
               ·rw [if_neg c70] at H
                have c70b0 : (t698 == t704) = false := beq_eq_false_iff_ne.mpr c70
                have c70b1 : (t698 != t704) = true := bne_iff_ne.mpr c70
                have H' := Aside0.mk H
                clear H
                go_wp2
                go_meet
                case rel => exact ⟨_, (true), (by first | rfl | (simp; done) | (simp [*]; done)), H', ⟨by have := HJ7.out; have := HJ22.out; first | omega | exact Nat.le_refl _⟩, ⟨by (with_reducible repeat (first | refine blk_drewN ?_ _ | refine blk_drew ?_ | refine blk_alloc ?_ _)); exact BK681.out⟩, ⟨by (with_reducible repeat (first | refine blk_drewN ?_ _ | refine blk_drew ?_ | refine blk_alloc ?_ _)); exact BK682.out⟩, ⟨by repeat (first | (with_reducible first | exact HB.out | apply below_alloc | apply pw_below_drewN | apply below_drew1 | refine below_set ?_ GE681.out | refine below_set ?_ GE682.out) | exact HB.out)⟩⟩
              ·replace c69 := Bool.eq_false_iff.mpr c69
               subst c69
               have H1 : (gnomonlaw08_RoundDecided.j2 kj22 t683 t698 false (t698 != 0) a1_0 l1_1 a1_2 a1_3 l1_4 a1_5 a2_0 l2_1 a2_2) = some r := by rw [if_neg (show ¬ (false = true) by decide)] at H; exact H
               clear H
               have H := H1
               clear H1
               have H' := Aside0.mk H
               clear H
               go_wp2
               go_meet
               case rel => exact ⟨_, ((t698 != 0)), (by first | rfl | (simp; done) | (simp [*]; done)), H', ⟨by have := HJ7.out; have := HJ22.out; first | omega | exact Nat.le_refl _⟩, ⟨by (with_reducible repeat (first | refine blk_drewN ?_ _ | refine blk_drew ?_ | refine blk_alloc ?_ _)); exact BK681.out⟩, ⟨by (with_reducible repeat (first | refine blk_drewN ?_ _ | refine blk_drew ?_ | refine blk_alloc ?_ _)); exact BK682.out⟩, ⟨by repeat (first | (with_reducible first | exact HB.out | apply below_alloc | apply pw_below_drewN | apply below_drew1 | refine below_set ?_ GE681.out | refine below_set ?_ GE682.out) | exact HB.out)⟩⟩
            ·rw [if_neg c67] at H
             have c67b0 : (t707 == 0) = false := beq_eq_false_iff_ne.mpr c67
             have c67b1 : (t707 != 0) = true := bne_iff_ne.mpr c67
             have H' := Aside0.mk H
             clear H
             go_wp2
             go_meet
             case rel => exact ⟨_, (true), (by first | rfl | (simp; done) | (simp [*]; done)), H', ⟨by have := HJ7.out; have := HJ22.out; first | omega | exact Nat.le_refl _⟩, ⟨by (with_reducible repeat (first | refine blk_drewN ?_ _ | refine blk_drew ?_ | refine blk_alloc ?_ _)); exact BK681.out⟩, ⟨by (with_reducible repeat (first | refine blk_drewN ?_ _ | refine blk_drew ?_ | refine blk_alloc ?_ _)); exact BK682.out⟩, ⟨by repeat (first | (with_reducible first | exact HB.out | apply below_alloc | apply pw_below_drewN | apply below_drew1 | refine below_set ?_ GE681.out | refine below_set ?_ GE682.out) | exact HB.out)⟩⟩
           ·rw [if_neg c66] at H
            have c66b0 : (t705 == 0) = false := beq_eq_false_iff_ne.mpr c66
            have c66b1 : (t705 != 0) = true := bne_iff_ne.mpr c66
            have H' := Aside0.mk H
            clear H
            go_wp2
            go_meet
            case rel => exact ⟨_, (true), (by first | rfl | (simp; done) | (simp [*]; done)), H', ⟨by have := HJ7.out; have := HJ22.out; first | omega | exact Nat.le_refl _⟩, ⟨by (with_reducible repeat (first | refine blk_drewN ?_ _ | refine blk_drew ?_ | refine blk_alloc ?_ _)); exact BK681.out⟩, ⟨by (with_reducible repeat (first | refine blk_drewN ?_ _ | refine blk_drew ?_ | refine blk_alloc ?_ _)); exact BK682.out⟩, ⟨by repeat (first | (with_reducible first | exact HB.out | apply below_alloc | apply pw_below_drewN | apply below_drew1 | refine below_set ?_ GE681.out | refine below_set ?_ GE682.out) | exact HB.out)⟩⟩
          ·rw [if_neg c65] at H
           have c65b0 : (t700 == 0) = false := beq_eq_false_iff_ne.mpr c65
           have c65b1 : (t700 != 0) = true := bne_iff_ne.mpr c65
           have H' := Aside0.mk H
           clear H
           go_wp2
           go_meet
           case rel => exact ⟨_, (true), (by first | rfl | (simp; done) | (simp [*]; done)), H', ⟨by have := HJ7.out; have := HJ22.out; first | omega | exact Nat.le_refl _⟩, ⟨by (with_reducible repeat (first | refine blk_drewN ?_ _ | refine blk_drew ?_ | refine blk_alloc ?_ _)); exact BK681.out⟩, ⟨by (with_reducible repeat (first | refine blk_drewN ?_ _ | refine blk_drew ?_ | refine blk_alloc ?_ _)); exact BK682.out⟩, ⟨by repeat (first | (with_reducible first | exact HB.out | apply below_alloc | apply pw_below_drewN | apply below_drew1 | refine below_set ?_ GE681.out | refine below_set ?_ GE682.out) | exact HB.out)⟩⟩
        case rest =>
         clear HC56
         try clear c1
         try clear c2
         try clear p2
         try clear c3
         try clear c4
         try clear c5
         try clear c6
         try clear c7
         try clear c8
         try clear c9
         try clear c10
         try clear c12
         try clear c13
         try clear c14
         try clear c16
         try clear c16b0
         try clear c16b1
         try clear c17
         try clear c18
         try clear c18b0
         try clear c18b1
         try clear c21
         try clear c24
         try clear c28
         try clear c30
         try clear c35
         try clear c38
         try clear c39
         try clear c39b0
         try clear c39b1
         try clear c40
         try clear c42
         try clear c42b0
         try clear c42b1
         try clear c43
         try clear c43b0
         try clear c43b1
         try clear c44
         try clear c45
         try clear c48
         try clear c51
         try clear c57
         try clear c64
         try clear c64b0
         try clear c65
         try clear c65b0
         try clear c65b1
         try clear c66
         try clear c66b0
         try clear c66b1
         try clear c67
         try clear c67b0
         try clear c67b1
         try clear c68
         try clear c68b0
         try clear c68b1
         try clear c68b2
         try clear c69
         try clear c70
         try clear c70b0
         try clear c70b1
         try clear hcz25_0
         try clear hcz25_1
         try clear hcz25_2
         try clear hcz25_3
         try clear hcz25_4
         try clear hcz25_5
         try clear hcz31_0
         try clear hcz31_1
         try clear hcz31_2
         try clear hcz31_3
         try clear hcz31_4
         try clear hcz31_5
         try clear hcz33_0
         try clear hcz33_1
         try clear hcz33_2
         try clear hcz33_3
         try clear hcz33_4
         try clear hcz33_5
         try clear hcz36_0
         try clear hcz36_1
         try clear hcz36_2
         try clear hcz36_3
         try clear hcz36_4
         try clear hcz36_5
         try clear hcz46_0
         try clear hcz46_1
         try clear hcz46_2
         try clear hcz46_3
         try clear hcz46_4
         try clear hcz46_5
         try clear hcz49_0
         try clear hcz49_1
         try clear hcz49_2
         try clear hcz49_3
         try clear hcz49_4
         try clear hcz49_5
         try clear hcz52_0
         try clear hcz52_1
         try clear hcz52_2
         try clear hcz52_3
         try clear hcz52_4
         try clear hcz52_5
         try clear hcz58_0
         try clear hcz58_1
         try clear hcz58_2
         try clear hcz58_3
         try clear hcz58_4
         try clear hcz58_5
         try clear hcz60_0
         try clear hcz60_1
         try clear hcz60_2
         try clear hcz60_3
         try clear hcz60_4
         try clear hcz60_5
         try clear hcz62_0
         try clear hcz62_1
         try clear hcz62_2
         try clear hcz62_3
         try clear hcz62_4
         try clear hcz62_5
         try clear hfz25_0
         try clear hfz25_1
         try clear hfz25_2
         try clear hfz25_3
         try clear hfz25_4
         try clear hfz25_5
         try clear hfz31_0
         try clear hfz31_1
         try clear hfz31_2
         try clear hfz31_3
         try clear hfz31_4
         try clear hfz31_5
         try clear hfz33_0
         try clear hfz33_1
         try clear hfz33_2
         try clear hfz33_3
         try clear hfz33_4
         try clear hfz33_5
         try clear hfz36_0
         try clear hfz36_1
         try clear hfz36_2
         try clear hfz36_3
         try clear hfz36_4
         try clear hfz36_5
         try clear hfz46_0
         try clear hfz46_1
         try clear hfz46_2
         try clear hfz46_3
         try clear hfz46_4
         try clear hfz46_5
         try clear hfz49_0
         try clear hfz49_1
         try clear hfz49_2
         try clear hfz49_3
         try clear hfz49_4
         try clear hfz49_5
         try clear hfz52_0
         try clear hfz52_1
         try clear hfz52_2
         try clear hfz52_3
         try clear hfz52_4
         try clear hfz52_5
         try clear hfz58_0
         try clear hfz58_1
         try clear hfz58_2
         try clear hfz58_3
         try clear hfz58_4
         try clear hfz58_5
         try clear hfz60_0
         try clear hfz60_1
         try clear hfz60_2
         try clear hfz60_3
         try clear hfz60_4
         try clear hfz60_5
         try clear hfz62_0
         try clear hfz62_1
         try clear hfz62_2
         try clear hfz62_3
         try clear hfz62_4
         try clear hfz62_5
         try clear p2
         obtain ⟨kq, x136_55, rfl, HA, HJ55, BK681, BK682, HB⟩ := hcut
         cases kq with
         | zero => exact absurd HA.out (by simp [gnomonlaw08_RoundDecided.j2])
         | succ kj55 =>
          have H := HA.out
          clear HA
          simp only [gnomonlaw08_RoundDecided.j2] at H
          by_cases c71 : x136_55 = true
          ·subst c71
           have H1 : (some false) = some r := by rw [if_pos rfl] at H; exact H
           clear H
           have H := H1
           clear H1
           obtain rfl := Option.some.inj H
           go_wp2
           go_ret
           exact ⟨by first | rfl | (simp [errW_none, errW_some] <;> rfl) | (simp [*, errW_none, errW_some] <;> rfl), by repeat (first | (with_reducible first | exact HB.out | apply below_alloc | apply pw_below_drewN | apply below_drew1 | refine below_set ?_ GE681.out | refine below_set ?_ GE682.out) | exact HB.out)⟩
          ·replace c71 := Bool.eq_false_iff.mpr c71
           subst c71
           have H1 : (if t699 = true then ((gnomonref05_DocForm.f kj55 a2_0 l2_1 a2_2).bind fun t708 => (if t708 = true then ((gnomonlaw08_at.f kj55 a1_0 l1_1 a1_2 a2_0 l2_1 a2_2).bind fun t709 => (if t709 > 0 then (gnomonlaw08_RoundDecided.j3 kj55 t683 t698 true a2_0 l2_1 a2_2) else ((gnomonlaw08_at.f kj55 a2_0 l2_1 a2_2 a1_3 l1_4 a1_5).bind fun t710 => (gnomonlaw08_RoundDecided.j3 kj55 t683 t698 (decide (t710 > 0)) a2_0 l2_1 a2_2)))) else (gnomonlaw08_RoundDecided.j3 kj55 t683 t698 true a2_0 l2_1 a2_2))) else (gnomonlaw08_RoundDecided.j3 kj55 t683 t698 true a2_0 l2_1 a2_2)) = some r := by rw [if_neg (show ¬ (false = true) by decide)] at H; exact H
           clear H
           have H := H1
           clear H1
           have HC72 := Aside0.mk H
           clear H
           go_upto_region 15 with (fail)
           go_cut [157] (fun v157 wc => ∃ (kq : Nat) (x157_71 : Bool), v157 = .bool x157_71 ∧ Aside0 (gnomonlaw08_RoundDecided.j3 kq t683 t698 x157_71 a2_0 l2_1 a2_2 = some r) ∧ Aside0 (kq ≤ kj55) ∧ Aside0 (wc.heap[gb681]? = some (.cells #[.bool a1_0, (.slice A1_1 l1_1.length c1_1), .int .i64 a1_2, .bool a1_3, (.slice A1_4 l1_4.length c1_4), .int .i64 a1_5] 28 (0, 0))) ∧ Aside0 (wc.heap[gb682]? = some (.cells #[.bool a2_0, (.slice A2_1 l2_1.length c2_1), .int .i64 a2_2] 26 (0, 0))) ∧ Aside0 (Below w.heap.size w wc))
           case first =>
            have H := HC72.out
            clear HC72
            by_cases c73 : t699 = true
            ·subst c73
             have H1 : ((gnomonref05_DocForm.f kj55 a2_0 l2_1 a2_2).bind fun t708 => (if t708 = true then ((gnomonlaw08_at.f kj55 a1_0 l1_1 a1_2 a2_0 l2_1 a2_2).bind fun t709 => (if t709 > 0 then (gnomonlaw08_RoundDecided.j3 kj55 t683 t698 true a2_0 l2_1 a2_2) else ((gnomonlaw08_at.f kj55 a2_0 l2_1 a2_2 a1_3 l1_4 a1_5).bind fun t710 => (gnomonlaw08_RoundDecided.j3 kj55 t683 t698 (decide (t710 > 0)) a2_0 l2_1 a2_2)))) else (gnomonlaw08_RoundDecided.j3 kj55 t683 t698 true a2_0 l2_1 a2_2))) = some r := by rw [if_pos rfl] at H; exact H
             clear H
             have H := H1
             clear H1
             replace H := Option.bind_eq_some_iff.mp H
             obtain ⟨t708, A740, H⟩ := H
             replace H : (if t708 = true then ((gnomonlaw08_at.f kj55 a1_0 l1_1 a1_2 a2_0 l2_1 a2_2).bind fun t709 => (if t709 > 0 then (gnomonlaw08_RoundDecided.j3 kj55 t683 t698 true a2_0 l2_1 a2_2) else ((gnomonlaw08_at.f kj55 a2_0 l2_1 a2_2 a1_3 l1_4 a1_5).bind fun t710 => (gnomonlaw08_RoundDecided.j3 kj55 t683 t698 (decide (t710 > 0)) a2_0 l2_1 a2_2)))) else (gnomonlaw08_RoundDecided.j3 kj55 t683 t698 true a2_0 l2_1 a2_2)) = some r := H
             have A74 := Aside0.mk A740
             clear A740
             by_cases c75 : t708 = true
             ·subst c75
              have H1 : ((gnomonlaw08_at.f kj55 a1_0 l1_1 a1_2 a2_0 l2_1 a2_2).bind fun t709 => (if t709 > 0 then (gnomonlaw08_RoundDecided.j3 kj55 t683 t698 true a2_0 l2_1 a2_2) else ((gnomonlaw08_at.f kj55 a2_0 l2_1 a2_2 a1_3 l1_4 a1_5).bind fun t710 => (gnomonlaw08_RoundDecided.j3 kj55 t683 t698 (decide (t710 > 0)) a2_0 l2_1 a2_2)))) = some r := by rw [if_pos rfl] at H; exact H
              clear H
              have H := H1
              clear H1
              replace H := Option.bind_eq_some_iff.mp H
              obtain ⟨t709, A760, H⟩ := H
              replace H : (if t709 > 0 then (gnomonlaw08_RoundDecided.j3 kj55 t683 t698 true a2_0 l2_1 a2_2) else ((gnomonlaw08_at.f kj55 a2_0 l2_1 a2_2 a1_3 l1_4 a1_5).bind fun t710 => (gnomonlaw08_RoundDecided.j3 kj55 t683 t698 (decide (t710 > 0)) a2_0 l2_1 a2_2))) = some r := H
              have A76 := Aside0.mk A760
              clear A760
              by_cases c77 : t709 > 0
              ·rw [if_pos c77] at H
               have c77b0 : decide (0 < t709) = true := decide_eq_true c77
               clear c77
               (first | rw [c77b0] | (simp only [i64_w, i32_w]; rw [c77b0]) | skip)
               have H' := Aside0.mk H
               clear H
               have hnb78 := NB682_681.out
               have hnc78 := NB681_682.out
               have hcz79_0 : wc.cell? ⟨gb682, 0, none⟩ = some (.bool a2_0) := (blk_cell BK682.out 0).trans rfl
               have hcz79_1 : wc.cell? ⟨gb682, 1, none⟩ = some (.slice A2_1 l2_1.length c2_1) := (blk_cell BK682.out 1).trans rfl
               have hcz79_2 : wc.cell? ⟨gb682, 2, none⟩ = some (.int .i64 a2_2) := (blk_cell BK682.out 2).trans rfl
               have hfz79_0 := blk_frozen BK682.out 0
               have hfz79_1 := blk_frozen BK682.out 1
               have hfz79_2 := blk_frozen BK682.out 2
               go_wp2_with (first | (go_at_call 12; (with_reducible refine (gnomonref05_DocForm.calls kj55 a2_0 _ _ l2_1 a2_2 true _ ?side1 ?side2 A74.out).mono ?_); (case side1 => repeat (first | exact (Kd.C_below HR2_1.out HB.out) | (with_reducible refine Kd.C_alloc ?_ _) | (with_reducible refine Kd.C_drewN ?_ _) | (with_reducible refine Kd.C_drew ?_))); (case side2 => exact HC2_1.out); rintro e w80 ⟨rfl, hb⟩; have n0_ := Aside0.mk (blk_below (g := gb681) (o := .cells #[.bool a1_0, .slice A1_1 l1_1.length c1_1, .int .i64 a1_2, .bool a1_3, .slice A1_4 l1_4.length c1_4, .int .i64 a1_5] 28 (0, 0)) (by (with_reducible repeat (first | refine blk_drewN ?_ _ | refine blk_drew ?_ | refine blk_alloc ?_ _)); exact BK681.out) hb); have n1_ := Aside0.mk (blk_below (g := gb682) (o := .cells #[.bool a2_0, .slice A2_1 l2_1.length c2_1, .int .i64 a2_2] 26 (0, 0)) (by (with_reducible repeat (first | refine blk_drewN ?_ _ | refine blk_drew ?_ | refine blk_alloc ?_ _)); exact BK682.out) hb); have n2_ := Aside0.mk (below_step (by repeat (first | (with_reducible first | exact HB.out | apply below_alloc | apply pw_below_drewN | apply below_drew1 | refine below_set ?_ GE681.out | refine below_set ?_ GE682.out) | exact HB.out)) hb); clear BK681; clear BK682; clear HB; have BK681 := n0_; have BK682 := n1_; have HB := n2_; clear n0_ n1_ n2_; (try clear hb); (try clear hb2); (try clear hk); (try clear hi); have hcz81_0 : w80.cell? ⟨gb681, 0, none⟩ = some (.bool a1_0) := (blk_cell BK681.out 0).trans rfl; have hcz81_1 : w80.cell? ⟨gb681, 1, none⟩ = some (.slice A1_1 l1_1.length c1_1) := (blk_cell BK681.out 1).trans rfl; have hcz81_2 : w80.cell? ⟨gb681, 2, none⟩ = some (.int .i64 a1_2) := (blk_cell BK681.out 2).trans rfl; have hcz81_3 : w80.cell? ⟨gb681, 3, none⟩ = some (.bool a1_3) := (blk_cell BK681.out 3).trans rfl; have hcz81_4 : w80.cell? ⟨gb681, 4, none⟩ = some (.slice A1_4 l1_4.length c1_4) := (blk_cell BK681.out 4).trans rfl; have hcz81_5 : w80.cell? ⟨gb681, 5, none⟩ = some (.int .i64 a1_5) := (blk_cell BK681.out 5).trans rfl; have hfz81_0 := blk_frozen BK681.out 0; have hfz81_1 := blk_frozen BK681.out 1; have hfz81_2 := blk_frozen BK681.out 2; have hfz81_3 := blk_frozen BK681.out 3; have hfz81_4 := blk_frozen BK681.out 4; have hfz81_5 := blk_frozen BK681.out 5; have hcz82_0 : w80.cell? ⟨gb682, 0, none⟩ = some (.bool a2_0) := (blk_cell BK682.out 0).trans rfl; have hcz82_1 : w80.cell? ⟨gb682, 1, none⟩ = some (.slice A2_1 l2_1.length c2_1) := (blk_cell BK682.out 1).trans rfl; have hcz82_2 : w80.cell? ⟨gb682, 2, none⟩ = some (.int .i64 a2_2) := (blk_cell BK682.out 2).trans rfl; have hfz82_0 := blk_frozen BK682.out 0; have hfz82_1 := blk_frozen BK682.out 1; have hfz82_2 := blk_frozen BK682.out 2) | (go_at_call 13; (with_reducible refine (gnomonlaw08_at.calls kj55 a1_0 _ _ l1_1 a1_2 a2_0 _ _ l2_1 a2_2 t709 _ ?side1 ?side2 ?side3 ?side4 A76.out).mono ?_); (case side1 => repeat (first | exact (Kd.C_below HR1_1.out HB.out) | (with_reducible refine Kd.C_alloc ?_ _) | (with_reducible refine Kd.C_drewN ?_ _) | (with_reducible refine Kd.C_drew ?_))); (case side2 => exact HC1_1.out); (case side3 => repeat (first | exact (Kd.C_below HR2_1.out HB.out) | (with_reducible refine Kd.C_alloc ?_ _) | (with_reducible refine Kd.C_drewN ?_ _) | (with_reducible refine Kd.C_drew ?_))); (case side4 => exact HC2_1.out); rintro e w83 ⟨rfl, hb⟩; have n0_ := Aside0.mk (blk_below (g := gb681) (o := .cells #[.bool a1_0, .slice A1_1 l1_1.length c1_1, .int .i64 a1_2, .bool a1_3, .slice A1_4 l1_4.length c1_4, .int .i64 a1_5] 28 (0, 0)) (by (with_reducible repeat (first | refine blk_drewN ?_ _ | refine blk_drew ?_ | refine blk_alloc ?_ _)); exact BK681.out) hb); have n1_ := Aside0.mk (blk_below (g := gb682) (o := .cells #[.bool a2_0, .slice A2_1 l2_1.length c2_1, .int .i64 a2_2] 26 (0, 0)) (by (with_reducible repeat (first | refine blk_drewN ?_ _ | refine blk_drew ?_ | refine blk_alloc ?_ _)); exact BK682.out) hb); have n2_ := Aside0.mk (below_step (by repeat (first | (with_reducible first | exact HB.out | apply below_alloc | apply pw_below_drewN | apply below_drew1 | refine below_set ?_ GE681.out | refine below_set ?_ GE682.out) | exact HB.out)) hb); clear BK681; clear BK682; clear HB; have BK681 := n0_; have BK682 := n1_; have HB := n2_; clear n0_ n1_ n2_; (try clear hb); (try clear hb2); (try clear hk); (try clear hi)))
               go_meet
               case rel => exact ⟨_, (true), (by first | rfl | (simp; done) | (simp [*]; done)), H', ⟨by have := HJ7.out; have := HJ22.out; have := HJ55.out; first | omega | exact Nat.le_refl _⟩, ⟨by (with_reducible repeat (first | refine blk_drewN ?_ _ | refine blk_drew ?_ | refine blk_alloc ?_ _)); exact BK681.out⟩, ⟨by (with_reducible repeat (first | refine blk_drewN ?_ _ | refine blk_drew ?_ | refine blk_alloc ?_ _)); exact BK682.out⟩, ⟨by repeat (first | (with_reducible first | exact HB.out | apply below_alloc | apply pw_below_drewN | apply below_drew1 | refine below_set ?_ GE681.out | refine below_set ?_ GE682.out) | exact HB.out)⟩⟩
              ·rw [if_neg c77] at H
               have c77b0 : decide (0 < t709) = false := decide_eq_false c77
               clear c77
               (first | rw [c77b0] | (simp only [i64_w, i32_w]; rw [c77b0]) | skip)
               replace H := Option.bind_eq_some_iff.mp H
               obtain ⟨t710, A840, H⟩ := H
               replace H : (gnomonlaw08_RoundDecided.j3 kj55 t683 t698 (decide (t710 > 0)) a2_0 l2_1 a2_2) = some r := H
               have A84 := Aside0.mk A840
               clear A840
               have H' := Aside0.mk H
               clear H
               have hnb85 := NB682_681.out
               have hnc85 := NB681_682.out
               have hcz86_0 : wc.cell? ⟨gb682, 0, none⟩ = some (.bool a2_0) := (blk_cell BK682.out 0).trans rfl
               have hcz86_1 : wc.cell? ⟨gb682, 1, none⟩ = some (.slice A2_1 l2_1.length c2_1) := (blk_cell BK682.out 1).trans rfl
               have hcz86_2 : wc.cell? ⟨gb682, 2, none⟩ = some (.int .i64 a2_2) := (blk_cell BK682.out 2).trans rfl
               have hfz86_0 := blk_frozen BK682.out 0
               have hfz86_1 := blk_frozen BK682.out 1
               have hfz86_2 := blk_frozen BK682.out 2
               go_wp2_with (first | (go_at_call 12; (with_reducible refine (gnomonref05_DocForm.calls kj55 a2_0 _ _ l2_1 a2_2 true _ ?side1 ?side2 A74.out).mono ?_); (case side1 => repeat (first | exact (Kd.C_below HR2_1.out HB.out) | (with_reducible refine Kd.C_alloc ?_ _) | (with_reducible refine Kd.C_drewN ?_ _) | (with_reducible refine Kd.C_drew ?_))); (case side2 => exact HC2_1.out); rintro e w87 ⟨rfl, hb⟩; have n0_ := Aside0.mk (blk_below (g := gb681) (o := .cells #[.bool a1_0, .slice A1_1 l1_1.length c1_1, .int .i64 a1_2, .bool a1_3, .slice A1_4 l1_4.length c1_4, .int .i64 a1_5] 28 (0, 0)) (by (with_reducible repeat (first | refine blk_drewN ?_ _ | refine blk_drew ?_ | refine blk_alloc ?_ _)); exact BK681.out) hb); have n1_ := Aside0.mk (blk_below (g := gb682) (o := .cells #[.bool a2_0, .slice A2_1 l2_1.length c2_1, .int .i64 a2_2] 26 (0, 0)) (by (with_reducible repeat (first | refine blk_drewN ?_ _ | refine blk_drew ?_ | refine blk_alloc ?_ _)); exact BK682.out) hb); have n2_ := Aside0.mk (below_step (by repeat (first | (with_reducible first | exact HB.out | apply below_alloc | apply pw_below_drewN | apply below_drew1 | refine below_set ?_ GE681.out | refine below_set ?_ GE682.out) | exact HB.out)) hb); clear BK681; clear BK682; clear HB; have BK681 := n0_; have BK682 := n1_; have HB := n2_; clear n0_ n1_ n2_; (try clear hb); (try clear hb2); (try clear hk); (try clear hi); have hcz88_0 : w87.cell? ⟨gb681, 0, none⟩ = some (.bool a1_0) := (blk_cell BK681.out 0).trans rfl; have hcz88_1 : w87.cell? ⟨gb681, 1, none⟩ = some (.slice A1_1 l1_1.length c1_1) := (blk_cell BK681.out 1).trans rfl; have hcz88_2 : w87.cell? ⟨gb681, 2, none⟩ = some (.int .i64 a1_2) := (blk_cell BK681.out 2).trans rfl; have hcz88_3 : w87.cell? ⟨gb681, 3, none⟩ = some (.bool a1_3) := (blk_cell BK681.out 3).trans rfl; have hcz88_4 : w87.cell? ⟨gb681, 4, none⟩ = some (.slice A1_4 l1_4.length c1_4) := (blk_cell BK681.out 4).trans rfl; have hcz88_5 : w87.cell? ⟨gb681, 5, none⟩ = some (.int .i64 a1_5) := (blk_cell BK681.out 5).trans rfl; have hfz88_0 := blk_frozen BK681.out 0; have hfz88_1 := blk_frozen BK681.out 1; have hfz88_2 := blk_frozen BK681.out 2; have hfz88_3 := blk_frozen BK681.out 3; have hfz88_4 := blk_frozen BK681.out 4; have hfz88_5 := blk_frozen BK681.out 5; have hcz89_0 : w87.cell? ⟨gb682, 0, none⟩ = some (.bool a2_0) := (blk_cell BK682.out 0).trans rfl; have hcz89_1 : w87.cell? ⟨gb682, 1, none⟩ = some (.slice A2_1 l2_1.length c2_1) := (blk_cell BK682.out 1).trans rfl; have hcz89_2 : w87.cell? ⟨gb682, 2, none⟩ = some (.int .i64 a2_2) := (blk_cell BK682.out 2).trans rfl; have hfz89_0 := blk_frozen BK682.out 0; have hfz89_1 := blk_frozen BK682.out 1; have hfz89_2 := blk_frozen BK682.out 2) | (go_at_call 13; (with_reducible refine (gnomonlaw08_at.calls kj55 a1_0 _ _ l1_1 a1_2 a2_0 _ _ l2_1 a2_2 t709 _ ?side1 ?side2 ?side3 ?side4 A76.out).mono ?_); (case side1 => repeat (first | exact (Kd.C_below HR1_1.out HB.out) | (with_reducible refine Kd.C_alloc ?_ _) | (with_reducible refine Kd.C_drewN ?_ _) | (with_reducible refine Kd.C_drew ?_))); (case side2 => exact HC1_1.out); (case side3 => repeat (first | exact (Kd.C_below HR2_1.out HB.out) | (with_reducible refine Kd.C_alloc ?_ _) | (with_reducible refine Kd.C_drewN ?_ _) | (with_reducible refine Kd.C_drew ?_))); (case side4 => exact HC2_1.out); rintro e w90 ⟨rfl, hb⟩; have n0_ := Aside0.mk (blk_below (g := gb681) (o := .cells #[.bool a1_0, .slice A1_1 l1_1.length c1_1, .int .i64 a1_2, .bool a1_3, .slice A1_4 l1_4.length c1_4, .int .i64 a1_5] 28 (0, 0)) (by (with_reducible repeat (first | refine blk_drewN ?_ _ | refine blk_drew ?_ | refine blk_alloc ?_ _)); exact BK681.out) hb); have n1_ := Aside0.mk (blk_below (g := gb682) (o := .cells #[.bool a2_0, .slice A2_1 l2_1.length c2_1, .int .i64 a2_2] 26 (0, 0)) (by (with_reducible repeat (first | refine blk_drewN ?_ _ | refine blk_drew ?_ | refine blk_alloc ?_ _)); exact BK682.out) hb); have n2_ := Aside0.mk (below_step (by repeat (first | (with_reducible first | exact HB.out | apply below_alloc | apply pw_below_drewN | apply below_drew1 | refine below_set ?_ GE681.out | refine below_set ?_ GE682.out) | exact HB.out)) hb); clear BK681; clear BK682; clear HB; have BK681 := n0_; have BK682 := n1_; have HB := n2_; clear n0_ n1_ n2_; (try clear hb); (try clear hb2); (try clear hk); (try clear hi); have hcz91_0 : w90.cell? ⟨gb682, 0, none⟩ = some (.bool a2_0) := (blk_cell BK682.out 0).trans rfl; have hcz91_1 : w90.cell? ⟨gb682, 1, none⟩ = some (.slice A2_1 l2_1.length c2_1) := (blk_cell BK682.out 1).trans rfl; have hcz91_2 : w90.cell? ⟨gb682, 2, none⟩ = some (.int .i64 a2_2) := (blk_cell BK682.out 2).trans rfl; have hfz91_0 := blk_frozen BK682.out 0; have hfz91_1 := blk_frozen BK682.out 1; have hfz91_2 := blk_frozen BK682.out 2; have hcz92_0 : w90.cell? ⟨gb681, 0, none⟩ = some (.bool a1_0) := (blk_cell BK681.out 0).trans rfl; have hcz92_1 : w90.cell? ⟨gb681, 1, none⟩ = some (.slice A1_1 l1_1.length c1_1) := (blk_cell BK681.out 1).trans rfl; have hcz92_2 : w90.cell? ⟨gb681, 2, none⟩ = some (.int .i64 a1_2) := (blk_cell BK681.out 2).trans rfl; have hcz92_3 : w90.cell? ⟨gb681, 3, none⟩ = some (.bool a1_3) := (blk_cell BK681.out 3).trans rfl; have hcz92_4 : w90.cell? ⟨gb681, 4, none⟩ = some (.slice A1_4 l1_4.length c1_4) := (blk_cell BK681.out 4).trans rfl; have hcz92_5 : w90.cell? ⟨gb681, 5, none⟩ = some (.int .i64 a1_5) := (blk_cell BK681.out 5).trans rfl; have hfz92_0 := blk_frozen BK681.out 0; have hfz92_1 := blk_frozen BK681.out 1; have hfz92_2 := blk_frozen BK681.out 2; have hfz92_3 := blk_frozen BK681.out 3; have hfz92_4 := blk_frozen BK681.out 4; have hfz92_5 := blk_frozen BK681.out 5) | (go_at_call 13; (with_reducible refine (gnomonlaw08_at.calls kj55 a2_0 _ _ l2_1 a2_2 a1_3 _ _ l1_4 a1_5 t710 _ ?side1 ?side2 ?side3 ?side4 A84.out).mono ?_); (case side1 => repeat (first | exact (Kd.C_below HR2_1.out HB.out) | (with_reducible refine Kd.C_alloc ?_ _) | (with_reducible refine Kd.C_drewN ?_ _) | (with_reducible refine Kd.C_drew ?_))); (case side2 => exact HC2_1.out); (case side3 => repeat (first | exact (Kd.C_below HR1_4.out HB.out) | (with_reducible refine Kd.C_alloc ?_ _) | (with_reducible refine Kd.C_drewN ?_ _) | (with_reducible refine Kd.C_drew ?_))); (case side4 => exact HC1_4.out); rintro e w93 ⟨rfl, hb⟩; have n0_ := Aside0.mk (blk_below (g := gb681) (o := .cells #[.bool a1_0, .slice A1_1 l1_1.length c1_1, .int .i64 a1_2, .bool a1_3, .slice A1_4 l1_4.length c1_4, .int .i64 a1_5] 28 (0, 0)) (by (with_reducible repeat (first | refine blk_drewN ?_ _ | refine blk_drew ?_ | refine blk_alloc ?_ _)); exact BK681.out) hb); have n1_ := Aside0.mk (blk_below (g := gb682) (o := .cells #[.bool a2_0, .slice A2_1 l2_1.length c2_1, .int .i64 a2_2] 26 (0, 0)) (by (with_reducible repeat (first | refine blk_drewN ?_ _ | refine blk_drew ?_ | refine blk_alloc ?_ _)); exact BK682.out) hb); have n2_ := Aside0.mk (below_step (by repeat (first | (with_reducible first | exact HB.out | apply below_alloc | apply pw_below_drewN | apply below_drew1 | refine below_set ?_ GE681.out | refine below_set ?_ GE682.out) | exact HB.out)) hb); clear BK681; clear BK682; clear HB; have BK681 := n0_; have BK682 := n1_; have HB := n2_; clear n0_ n1_ n2_; (try clear hb); (try clear hb2); (try clear hk); (try clear hi)))
               go_meet
               case rel => exact ⟨_, (decide (t710 > 0)), (by first | rfl | (simp; done) | (simp [*]; done)), H', ⟨by have := HJ7.out; have := HJ22.out; have := HJ55.out; first | omega | exact Nat.le_refl _⟩, ⟨by (with_reducible repeat (first | refine blk_drewN ?_ _ | refine blk_drew ?_ | refine blk_alloc ?_ _)); exact BK681.out⟩, ⟨by (with_reducible repeat (first | refine blk_drewN ?_ _ | refine blk_drew ?_ | refine blk_alloc ?_ _)); exact BK682.out⟩, ⟨by repeat (first | (with_reducible first | exact HB.out | apply below_alloc | apply pw_below_drewN | apply below_drew1 | refine below_set ?_ GE681.out | refine below_set ?_ GE682.out) | exact HB.out)⟩⟩
             ·replace c75 := Bool.eq_false_iff.mpr c75
              subst c75
              have H1 : (gnomonlaw08_RoundDecided.j3 kj55 t683 t698 true a2_0 l2_1 a2_2) = some r := by rw [if_neg (show ¬ (false = true) by decide)] at H; exact H
              clear H
              have H := H1
              clear H1
              have H' := Aside0.mk H
              clear H
              have hnb94 := NB682_681.out
              have hnc94 := NB681_682.out
              have hcz95_0 : wc.cell? ⟨gb682, 0, none⟩ = some (.bool a2_0) := (blk_cell BK682.out 0).trans rfl
              have hcz95_1 : wc.cell? ⟨gb682, 1, none⟩ = some (.slice A2_1 l2_1.length c2_1) := (blk_cell BK682.out 1).trans rfl
              have hcz95_2 : wc.cell? ⟨gb682, 2, none⟩ = some (.int .i64 a2_2) := (blk_cell BK682.out 2).trans rfl
              have hfz95_0 := blk_frozen BK682.out 0
              have hfz95_1 := blk_frozen BK682.out 1
              have hfz95_2 := blk_frozen BK682.out 2
              go_wp2_with (first | (go_at_call 12; (with_reducible refine (gnomonref05_DocForm.calls kj55 a2_0 _ _ l2_1 a2_2 false _ ?side1 ?side2 A74.out).mono ?_); (case side1 => repeat (first | exact (Kd.C_below HR2_1.out HB.out) | (with_reducible refine Kd.C_alloc ?_ _) | (with_reducible refine Kd.C_drewN ?_ _) | (with_reducible refine Kd.C_drew ?_))); (case side2 => exact HC2_1.out); rintro e w96 ⟨rfl, hb⟩; have n0_ := Aside0.mk (blk_below (g := gb681) (o := .cells #[.bool a1_0, .slice A1_1 l1_1.length c1_1, .int .i64 a1_2, .bool a1_3, .slice A1_4 l1_4.length c1_4, .int .i64 a1_5] 28 (0, 0)) (by (with_reducible repeat (first | refine blk_drewN ?_ _ | refine blk_drew ?_ | refine blk_alloc ?_ _)); exact BK681.out) hb); have n1_ := Aside0.mk (blk_below (g := gb682) (o := .cells #[.bool a2_0, .slice A2_1 l2_1.length c2_1, .int .i64 a2_2] 26 (0, 0)) (by (with_reducible repeat (first | refine blk_drewN ?_ _ | refine blk_drew ?_ | refine blk_alloc ?_ _)); exact BK682.out) hb); have n2_ := Aside0.mk (below_step (by repeat (first | (with_reducible first | exact HB.out | apply below_alloc | apply pw_below_drewN | apply below_drew1 | refine below_set ?_ GE681.out | refine below_set ?_ GE682.out) | exact HB.out)) hb); clear BK681; clear BK682; clear HB; have BK681 := n0_; have BK682 := n1_; have HB := n2_; clear n0_ n1_ n2_; (try clear hb); (try clear hb2); (try clear hk); (try clear hi)))
              go_meet
              case rel => exact ⟨_, (true), (by first | rfl | (simp; done) | (simp [*]; done)), H', ⟨by have := HJ7.out; have := HJ22.out; have := HJ55.out; first | omega | exact Nat.le_refl _⟩, ⟨by (with_reducible repeat (first | refine blk_drewN ?_ _ | refine blk_drew ?_ | refine blk_alloc ?_ _)); exact BK681.out⟩, ⟨by (with_reducible repeat (first | refine blk_drewN ?_ _ | refine blk_drew ?_ | refine blk_alloc ?_ _)); exact BK682.out⟩, ⟨by repeat (first | (with_reducible first | exact HB.out | apply below_alloc | apply pw_below_drewN | apply below_drew1 | refine below_set ?_ GE681.out | refine below_set ?_ GE682.out) | exact HB.out)⟩⟩
            ·replace c73 := Bool.eq_false_iff.mpr c73
             subst c73
             have H1 : (gnomonlaw08_RoundDecided.j3 kj55 t683 t698 true a2_0 l2_1 a2_2) = some r := by rw [if_neg (show ¬ (false = true) by decide)] at H; exact H
             clear H
             have H := H1
             clear H1
             have H' := Aside0.mk H
             clear H
             go_wp2
             go_meet
             case rel => exact ⟨_, (true), (by first | rfl | (simp; done) | (simp [*]; done)), H', ⟨by have := HJ7.out; have := HJ22.out; have := HJ55.out; first | omega | exact Nat.le_refl _⟩, ⟨by (with_reducible repeat (first | refine blk_drewN ?_ _ | refine blk_drew ?_ | refine blk_alloc ?_ _)); exact BK681.out⟩, ⟨by (with_reducible repeat (first | refine blk_drewN ?_ _ | refine blk_drew ?_ | refine blk_alloc ?_ _)); exact BK682.out⟩, ⟨by repeat (first | (with_reducible first | exact HB.out | apply below_alloc | apply pw_below_drewN | apply below_drew1 | refine below_set ?_ GE681.out | refine below_set ?_ GE682.out) | exact HB.out)⟩⟩
           case rest =>
            clear HC72
            try clear c1
            try clear c2
            try clear p2
            try clear c3
            try clear c4
            try clear c5
            try clear c6
            try clear c7
            try clear c8
            try clear c9
            try clear c10
            try clear c12
            try clear c13
            try clear c14
            try clear c16
            try clear c16b0
            try clear c16b1
            try clear c17
            try clear c18
            try clear c18b0
            try clear c18b1
            try clear c21
            try clear c24
            try clear c28
            try clear c30
            try clear c35
            try clear c38
            try clear c39
            try clear c39b0
            try clear c39b1
            try clear c40
            try clear c42
            try clear c42b0
            try clear c42b1
            try clear c43
            try clear c43b0
            try clear c43b1
            try clear c44
            try clear c45
            try clear c48
            try clear c51
            try clear c57
            try clear c64
            try clear c64b0
            try clear c65
            try clear c65b0
            try clear c65b1
            try clear c66
            try clear c66b0
            try clear c66b1
            try clear c67
            try clear c67b0
            try clear c67b1
            try clear c68
            try clear c68b0
            try clear c68b1
            try clear c68b2
            try clear c69
            try clear c70
            try clear c70b0
            try clear c70b1
            try clear c71
            try clear c73
            try clear c75
            try clear c77
            try clear c77b0
            try clear c78
            try clear c85
            try clear c94
            try clear hcz25_0
            try clear hcz25_1
            try clear hcz25_2
            try clear hcz25_3
            try clear hcz25_4
            try clear hcz25_5
            try clear hcz31_0
            try clear hcz31_1
            try clear hcz31_2
            try clear hcz31_3
            try clear hcz31_4
            try clear hcz31_5
            try clear hcz33_0
            try clear hcz33_1
            try clear hcz33_2
            try clear hcz33_3
            try clear hcz33_4
            try clear hcz33_5
            try clear hcz36_0
            try clear hcz36_1
            try clear hcz36_2
            try clear hcz36_3
            try clear hcz36_4
            try clear hcz36_5
            try clear hcz46_0
            try clear hcz46_1
            try clear hcz46_2
            try clear hcz46_3
            try clear hcz46_4
            try clear hcz46_5
            try clear hcz49_0
            try clear hcz49_1
            try clear hcz49_2
            try clear hcz49_3
            try clear hcz49_4
            try clear hcz49_5
            try clear hcz52_0
            try clear hcz52_1
            try clear hcz52_2
            try clear hcz52_3
            try clear hcz52_4
            try clear hcz52_5
            try clear hcz58_0
            try clear hcz58_1
            try clear hcz58_2
            try clear hcz58_3
            try clear hcz58_4
            try clear hcz58_5
            try clear hcz60_0
            try clear hcz60_1
            try clear hcz60_2
            try clear hcz60_3
            try clear hcz60_4
            try clear hcz60_5
            try clear hcz62_0
            try clear hcz62_1
            try clear hcz62_2
            try clear hcz62_3
            try clear hcz62_4
            try clear hcz62_5
            try clear hcz79_0
            try clear hcz79_1
            try clear hcz79_2
            try clear hcz81_0
            try clear hcz81_1
            try clear hcz81_2
            try clear hcz81_3
            try clear hcz81_4
            try clear hcz81_5
            try clear hcz82_0
            try clear hcz82_1
            try clear hcz82_2
            try clear hcz86_0
            try clear hcz86_1
            try clear hcz86_2
            try clear hcz88_0
            try clear hcz88_1
            try clear hcz88_2
            try clear hcz88_3
            try clear hcz88_4
            try clear hcz88_5
            try clear hcz89_0
            try clear hcz89_1
            try clear hcz89_2
            try clear hcz91_0
            try clear hcz91_1
            try clear hcz91_2
            try clear hcz92_0
            try clear hcz92_1
            try clear hcz92_2
            try clear hcz92_3
            try clear hcz92_4
            try clear hcz92_5
            try clear hcz95_0
            try clear hcz95_1
            try clear hcz95_2
            try clear hfz25_0
            try clear hfz25_1
            try clear hfz25_2
            try clear hfz25_3
            try clear hfz25_4
            try clear hfz25_5
            try clear hfz31_0
            try clear hfz31_1
            try clear hfz31_2
            try clear hfz31_3
            try clear hfz31_4
            try clear hfz31_5
            try clear hfz33_0
            try clear hfz33_1
            try clear hfz33_2
            try clear hfz33_3
            try clear hfz33_4
            try clear hfz33_5
            try clear hfz36_0
            try clear hfz36_1
            try clear hfz36_2
            try clear hfz36_3
            try clear hfz36_4
            try clear hfz36_5
            try clear hfz46_0
            try clear hfz46_1
            try clear hfz46_2
            try clear hfz46_3
            try clear hfz46_4
            try clear hfz46_5
            try clear hfz49_0
            try clear hfz49_1
            try clear hfz49_2
            try clear hfz49_3
            try clear hfz49_4
            try clear hfz49_5
            try clear hfz52_0
            try clear hfz52_1
            try clear hfz52_2
            try clear hfz52_3
            try clear hfz52_4
            try clear hfz52_5
            try clear hfz58_0
            try clear hfz58_1
            try clear hfz58_2
            try clear hfz58_3
            try clear hfz58_4
            try clear hfz58_5
            try clear hfz60_0
            try clear hfz60_1
            try clear hfz60_2
            try clear hfz60_3
            try clear hfz60_4
            try clear hfz60_5
            try clear hfz62_0
            try clear hfz62_1
            try clear hfz62_2
            try clear hfz62_3
            try clear hfz62_4
            try clear hfz62_5
            try clear hfz79_0
            try clear hfz79_1
            try clear hfz79_2
            try clear hfz81_0
            try clear hfz81_1
            try clear hfz81_2
            try clear hfz81_3
            try clear hfz81_4
            try clear hfz81_5
            try clear hfz82_0
            try clear hfz82_1
            try clear hfz82_2
            try clear hfz86_0
            try clear hfz86_1
            try clear hfz86_2
            try clear hfz88_0
            try clear hfz88_1
            try clear hfz88_2
            try clear hfz88_3
            try clear hfz88_4
            try clear hfz88_5
            try clear hfz89_0
            try clear hfz89_1
            try clear hfz89_2
            try clear hfz91_0
            try clear hfz91_1
            try clear hfz91_2
            try clear hfz92_0
            try clear hfz92_1
            try clear hfz92_2
            try clear hfz92_3
            try clear hfz92_4
            try clear hfz92_5
            try clear hfz95_0
            try clear hfz95_1
            try clear hfz95_2
            try clear p2
            obtain ⟨kq, x157_71, rfl, HA, HJ71, BK681, BK682, HB⟩ := hcut
            cases kq with
            | zero => exact absurd HA.out (by simp [gnomonlaw08_RoundDecided.j3])
            | succ kj71 =>
             have H := HA.out
             clear HA
             simp only [gnomonlaw08_RoundDecided.j3] at H
             by_cases c97 : x157_71 = true
             ·subst c97
              have H1 : (some true) = some r := by rw [if_pos rfl] at H; exact H
              clear H
              have H := H1
              clear H1
              obtain rfl := Option.some.inj H
              go_wp2
              go_ret
              exact ⟨by first | rfl | (simp [errW_none, errW_some] <;> rfl) | (simp [*, errW_none, errW_some] <;> rfl), by repeat (first | (with_reducible first | exact HB.out | apply below_alloc | apply pw_below_drewN | apply below_drew1 | refine below_set ?_ GE681.out | refine below_set ?_ GE682.out) | exact HB.out)⟩
             ·replace c97 := Bool.eq_false_iff.mpr c97
              subst c97
              have H1 : ((round_Nearest.f kj71 t683 a2_0 l2_1 a2_2).bind fun bt711 => (if bt711.2 = 0 then (some (bt711.1 == t698)) else (some false))) = some r := by rw [if_neg (show ¬ (false = true) by decide)] at H; exact H
              clear H
              have H := H1
              clear H1
              replace H := Option.bind_eq_some_iff.mp H
              obtain ⟨⟨t711, t712⟩, A980, H⟩ := H
              replace H : (if t712 = 0 then (some (t711 == t698)) else (some false)) = some r := H
              have A98 := Aside0.mk A980
              clear A980
              by_cases c99 : t712 = 0
              ·rw [if_pos c99] at H
               have c99b0 : (t712 == 0) = true := beq_iff_eq.mpr c99
               have c99b1 : (t712 != 0) = false := bne_eq_false_iff_eq.mpr c99
               clear c99
               obtain rfl := Option.some.inj H
               have hnb100 := NB682_681.out
               have hnc100 := NB681_682.out
               have hcz101_0 : wc.cell? ⟨gb682, 0, none⟩ = some (.bool a2_0) := (blk_cell BK682.out 0).trans rfl
               have hcz101_1 : wc.cell? ⟨gb682, 1, none⟩ = some (.slice A2_1 l2_1.length c2_1) := (blk_cell BK682.out 1).trans rfl
               have hcz101_2 : wc.cell? ⟨gb682, 2, none⟩ = some (.int .i64 a2_2) := (blk_cell BK682.out 2).trans rfl
               have hfz101_0 := blk_frozen BK682.out 0
               have hfz101_1 := blk_frozen BK682.out 1
               have hfz101_2 := blk_frozen BK682.out 2
               go_wp2_with (first | ((with_reducible refine gate_callee (f := 14) rfl ?_); refine goesL_ (some 161) rfl rfl Tryd.func14 (by kernel_rfl) rfl #[.int .i64 t683, .agg #[.bool a2_0, .slice A2_1 l2_1.length c2_1, .int .i64 a2_2]] rfl (by (try simp only [List.map_toArray, List.map_cons, List.map_nil]); first | done | rfl | (simp only [List.length_drop, List.length_take]; rfl)) ?_; (with_reducible refine (round_Nearest.calls kj71 t683 a2_0 _ _ l2_1 a2_2 t711 t712 _ ?side1 ?side2 ?side3 A98.out).mono ?_); (case side1 => repeat (first | exact (Kd.C_below HR2_1.out HB.out) | (with_reducible refine Kd.C_alloc ?_ _) | (with_reducible refine Kd.C_drewN ?_ _) | (with_reducible refine Kd.C_drew ?_))); (case side2 => exact HC2_1.out); (case side3 => exact Tab.next hT (by repeat (first | (with_reducible first | exact HB.out | apply below_alloc | apply pw_below_drewN | apply below_drew1 | refine below_set ?_ GE681.out | refine below_set ?_ GE682.out) | exact HB.out))); rintro e w102 ⟨rfl, hb⟩; refine ⟨_, rfl, ?_⟩; have n0_ := Aside0.mk (blk_below (g := gb681) (o := .cells #[.bool a1_0, .slice A1_1 l1_1.length c1_1, .int .i64 a1_2, .bool a1_3, .slice A1_4 l1_4.length c1_4, .int .i64 a1_5] 28 (0, 0)) (by (with_reducible repeat (first | refine blk_drewN ?_ _ | refine blk_drew ?_ | refine blk_alloc ?_ _)); exact BK681.out) hb); have n1_ := Aside0.mk (blk_below (g := gb682) (o := .cells #[.bool a2_0, .slice A2_1 l2_1.length c2_1, .int .i64 a2_2] 26 (0, 0)) (by (with_reducible repeat (first | refine blk_drewN ?_ _ | refine blk_drew ?_ | refine blk_alloc ?_ _)); exact BK682.out) hb); have n2_ := Aside0.mk (below_step (by repeat (first | (with_reducible first | exact HB.out | apply below_alloc | apply pw_below_drewN | apply below_drew1 | refine below_set ?_ GE681.out | refine below_set ?_ GE682.out) | exact HB.out)) hb); clear BK681; clear BK682; clear HB; have BK681 := n0_; have BK682 := n1_; have HB := n2_; clear n0_ n1_ n2_; (try clear hb); (try clear hb2); (try clear hk); (try clear hi)))
               go_ret
               exact ⟨by first | rfl | (simp [errW_none, errW_some] <;> rfl) | (simp [*, errW_none, errW_some] <;> rfl), by repeat (first | (with_reducible first | exact HB.out | apply below_alloc | apply pw_below_drewN | apply below_drew1 | refine below_set ?_ GE681.out | refine below_set ?_ GE682.out) | exact HB.out)⟩
              ·rw [if_neg c99] at H
               have c99b0 : (t712 == 0) = false := beq_eq_false_iff_ne.mpr c99
               have c99b1 : (t712 != 0) = true := bne_iff_ne.mpr c99
               obtain rfl := Option.some.inj H
               have hnb103 := NB682_681.out
               have hnc103 := NB681_682.out
               have hcz104_0 : wc.cell? ⟨gb682, 0, none⟩ = some (.bool a2_0) := (blk_cell BK682.out 0).trans rfl
               have hcz104_1 : wc.cell? ⟨gb682, 1, none⟩ = some (.slice A2_1 l2_1.length c2_1) := (blk_cell BK682.out 1).trans rfl
               have hcz104_2 : wc.cell? ⟨gb682, 2, none⟩ = some (.int .i64 a2_2) := (blk_cell BK682.out 2).trans rfl
               have hfz104_0 := blk_frozen BK682.out 0
               have hfz104_1 := blk_frozen BK682.out 1
               have hfz104_2 := blk_frozen BK682.out 2
               go_wp2_with (first | ((with_reducible refine gate_callee (f := 14) rfl ?_); refine goesL_ (some 161) rfl rfl Tryd.func14 (by kernel_rfl) rfl #[.int .i64 t683, .agg #[.bool a2_0, .slice A2_1 l2_1.length c2_1, .int .i64 a2_2]] rfl (by (try simp only [List.map_toArray, List.map_cons, List.map_nil]); first | done | rfl | (simp only [List.length_drop, List.length_take]; rfl)) ?_; (with_reducible refine (round_Nearest.calls kj71 t683 a2_0 _ _ l2_1 a2_2 t711 t712 _ ?side1 ?side2 ?side3 A98.out).mono ?_); (case side1 => repeat (first | exact (Kd.C_below HR2_1.out HB.out) | (with_reducible refine Kd.C_alloc ?_ _) | (with_reducible refine Kd.C_drewN ?_ _) | (with_reducible refine Kd.C_drew ?_))); (case side2 => exact HC2_1.out); (case side3 => exact Tab.next hT (by repeat (first | (with_reducible first | exact HB.out | apply below_alloc | apply pw_below_drewN | apply below_drew1 | refine below_set ?_ GE681.out | refine below_set ?_ GE682.out) | exact HB.out))); rintro e w105 ⟨rfl, hb⟩; refine ⟨_, rfl, ?_⟩; have n0_ := Aside0.mk (blk_below (g := gb681) (o := .cells #[.bool a1_0, .slice A1_1 l1_1.length c1_1, .int .i64 a1_2, .bool a1_3, .slice A1_4 l1_4.length c1_4, .int .i64 a1_5] 28 (0, 0)) (by (with_reducible repeat (first | refine blk_drewN ?_ _ | refine blk_drew ?_ | refine blk_alloc ?_ _)); exact BK681.out) hb); have n1_ := Aside0.mk (blk_below (g := gb682) (o := .cells #[.bool a2_0, .slice A2_1 l2_1.length c2_1, .int .i64 a2_2] 26 (0, 0)) (by (with_reducible repeat (first | refine blk_drewN ?_ _ | refine blk_drew ?_ | refine blk_alloc ?_ _)); exact BK682.out) hb); have n2_ := Aside0.mk (below_step (by repeat (first | (with_reducible first | exact HB.out | apply below_alloc | apply pw_below_drewN | apply below_drew1 | refine below_set ?_ GE681.out | refine below_set ?_ GE682.out) | exact HB.out)) hb); clear BK681; clear BK682; clear HB; have BK681 := n0_; have BK682 := n1_; have HB := n2_; clear n0_ n1_ n2_; (try clear hb); (try clear hb2); (try clear hk); (try clear hi)))
               go_ret
               exact ⟨by first | rfl | (simp [errW_none, errW_some] <;> rfl) | (simp [*, errW_none, errW_some] <;> rfl), by repeat (first | (with_reducible first | exact HB.out | apply below_alloc | apply pw_below_drewN | apply below_drew1 | refine below_set ?_ GE681.out | refine below_set ?_ GE682.out) | exact HB.out)⟩
end Go.Proofs.YtelfmddcjlocpaaDoor.PLib
