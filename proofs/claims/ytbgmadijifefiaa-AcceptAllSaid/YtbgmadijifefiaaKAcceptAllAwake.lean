/- The calls whose answers the document fixes: the statements' own 'awake' returns true. No condition. -/
import Derived.Test.YtbgmadijifefiaaKAcceptAllProdB
namespace Go.Proofs.Ytbgmadijifefiaa.Awake
open Go.RowKit Go.Proofs.Ytbgmadijifefiaa.FW Go.Proofs.Ytbgmadijifefiaa.Eft
theorem fop_val {op : BinOp} {x y r v : Nat} (h : FOp op x y r) (hv : floatBits op .f64 x y = some v) : r = v := h.val v hv
theorem sum_tiny {s e : Nat} (h : TwoSumR 4336966441157787648 4607182418800017408 s e) : s = 4607182418800017408 ∧ e = 4336966441157787648 := by
 obtain ⟨bb, aa, t1, t2, h1, h2, h3, h4, h5, h6⟩ := h
 obtain rfl := fop_val (v := 4607182418800017408) h1 (by kernel_rfl)
 obtain rfl := fop_val (v := 4607182418800017408) h2 (by kernel_rfl)
 obtain rfl := fop_val (v := 0) h3 (by kernel_rfl)
 obtain rfl := fop_val (v := 4336966441157787648) h4 (by kernel_rfl)
 obtain rfl := fop_val (v := 0) h5 (by kernel_rfl)
 obtain rfl := fop_val (v := 4336966441157787648) h6 (by kernel_rfl)
 exact ⟨rfl, rfl⟩
theorem fast_tiny {s e : Nat} (h : FastR 4607182418800017408 4336966441157787648 s e) : s = 4607182418800017408 ∧ e = 4336966441157787648 := by
 obtain ⟨z, h1, h2, h3⟩ := h
 obtain rfl := fop_val (v := 4607182418800017408) h1 (by kernel_rfl)
 obtain rfl := fop_val (v := 0) h2 (by kernel_rfl)
 obtain rfl := fop_val (v := 4336966441157787648) h3 (by kernel_rfl)
 exact ⟨rfl, rfl⟩
theorem split_one {s e : Nat} (h : SplitR 4607182418804211712 s e) : s = 4607182418800017408 ∧ e = 4472074429978902528 := by
 obtain ⟨c, d, h1, h2, h3, h4⟩ := h
 obtain rfl := fop_val (v := 4728779608776769536) h1 (by kernel_rfl)
 obtain rfl := fop_val (v := 4728779608743215104) h2 (by kernel_rfl)
 obtain rfl := fop_val (v := 4607182418800017408) h3 (by kernel_rfl)
 obtain rfl := fop_val (v := 4472074429978902528) h4 (by kernel_rfl)
 exact ⟨rfl, rfl⟩
theorem prod_one {s e : Nat} (h : ProdR 4607182418804211712 4607182418804211712 s e) : s = 4607182418808406016 ∧ e = 4336966441157787648 := by
 obtain ⟨ah, al, bh, bl, x1, e1, x2, e2, x3, e3, x4, h0, ha, hb, h1, h2, h3, h4, h5, h6, h7, h8⟩ := h
 obtain rfl := fop_val (v := 4607182418808406016) h0 (by kernel_rfl)
 obtain ⟨rfl, rfl⟩ := split_one ha
 obtain ⟨rfl, rfl⟩ := split_one hb
 obtain rfl := fop_val (v := 4607182418800017408) h1 (by kernel_rfl)
 obtain rfl := fop_val (v := 13699950066461048832) h2 (by kernel_rfl)
 obtain rfl := fop_val (v := 4472074429978902528) h3 (by kernel_rfl)
 obtain rfl := fop_val (v := 13695446466833678336) h4 (by kernel_rfl)
 obtain rfl := fop_val (v := 4472074429978902528) h5 (by kernel_rfl)
 obtain rfl := fop_val (v := 0) h6 (by kernel_rfl)
 obtain rfl := fop_val (v := 4336966441157787648) h7 (by kernel_rfl)
 obtain rfl := fop_val (v := 4336966441157787648) h8 (by kernel_rfl)
 exact ⟨rfl, rfl⟩
set_option maxRecDepth 100000 in
set_option maxHeartbeats 1000000 in
theorem awake_any (w : World) : Calls Try.prog 19 #[] w fun e w' => e = .returned (.bool true) ∧ Drew w w' := by
 go_enter Try.func19, Try.ntmps19
 go_wp2_with fail
 refine (sum_any _ _ _).mono ?_
 rintro e w1 ⟨s1, t1, rfl, hr1, _, _, d1⟩
 obtain ⟨rfl, rfl⟩ := sum_tiny hr1
 clear hr1
 go_wp2_with fail
 refine (fastw_any _ _ _).mono ?_
 rintro e w2 ⟨s2, t2, rfl, hr2, _, _, d2⟩
 obtain ⟨rfl, rfl⟩ := fast_tiny hr2
 clear hr2
 go_wp2_with fail
 refine (splitw_any _ _).mono ?_
 rintro e w3 ⟨s3, t3, rfl, hr3, _, _, d3⟩
 obtain ⟨rfl, rfl⟩ := split_one hr3
 clear hr3
 go_wp2_with fail
 refine (prodw_any _ _ _).mono ?_
 rintro e w4 ⟨s4, t4, rfl, hr4, _, _, d4⟩
 obtain ⟨rfl, rfl⟩ := prod_one hr4
 clear hr4
 go_wp2_with fail
 go_ret
 exact ⟨rfl, ((d1.trans d2).trans d3).trans d4⟩
end Go.Proofs.Ytbgmadijifefiaa.Awake
